/- Parts of the proof, one behind the other. -/
import Derived.Test.YtpobhbdomldecaaGreatDoorHknP3
import Derived.ProofKit
import Derived.OpenShut
import Derived.ShutString
import Derived.ChangeOld
import Derived.Deep.Slices
import Derived.Deep.Fields
import Derived.LaidMore
import Derived.LaidHandle
import Derived.Stop.Joined
import Derived.ChangeVars
import Derived.JoinedOf
import Derived.RowKitTokens
import Derived.ChangeMaps5
import Derived.Test.YtpobhbdomldecaaGreatDoorCards
import Derived.Test.YtpobhbdomldecaaGreatDoorTie
import Derived.SevenTiedAt
namespace Go.Proofs.YtpobhbdomldecaaGreatDoor
open Go.RowKit
set_option linter.unusedSimpArgs false
set_option linter.unusedVariables false
theorem own_other {w : World} {b1 b2 e1 e2 s1 s2 n m : Nat} {u v : Value} {xs ys : List Value} (h1 : w.ownsRow b1 e1 s1 u n xs) (h2 : w.ownsRow b2 e2 s2 v m ys) (he : e1 ≠ e2) : u.ownBlock = none ∨ u.ownBlock ≠ v.ownBlock := by
  rcases h1.2 with ⟨rfl, _⟩ | ⟨g, cap, cur, rfl, _, hg, _⟩
  · exact .inl rfl
  · refine .inr fun e => ?_
    rcases h2.2 with ⟨rfl, _⟩ | ⟨g2, cap2, cur2, rfl, _, hg2, _⟩
    · cases e
    · have e' : g = g2 := by simpa [Value.ownBlock] using e
      subst e'
      rw [hg] at hg2
      cases hg2
      exact he rfl
def rowN (z : ByteArray) (m : Nat) : List Hdr := (List.range m).map fun i => (⟨100 + ((i : Nat) : Int), z, z, z⟩ : Hdr)
theorem rowN_len (z : ByteArray) (m : Nat) : len (rowN z m) = m := by unfold rowN; rw [len_eq]; simp
theorem rowN_snoc (z : ByteArray) (m : Nat) : rowN z (m + 1) = rowN z m ++ [⟨100 + ((m : Nat) : Int), z, z, z⟩] := by unfold rowN; rw [List.range_succ, List.map_append]; rfl
theorem rowN_at (z : ByteArray) (m i : Nat) (h : i < m) : hnth (rowN z m) i = ⟨100 + ((i : Nat) : Int), z, z, z⟩ := by
  unfold hnth rowN
  rw [List.getD_eq_getElem?_getD, List.getElem?_map, List.getElem?_range h]
  rfl
theorem rowN_take (z : ByteArray) (m n : Nat) (h : n ≤ m) : (rowN z m).take n = rowN z n := by
  unfold rowN
  rw [← List.map_take, List.take_range]
  congr 2
  omega
theorem rowN_ok {z : ByteArray} (hz : z.size = 32) {m : Nat} (hm : m ≤ 1000) : ∀ i, (hnth (rowN z m) i).Ok := hoks (fun p hp => by
  unfold rowN at hp
  obtain ⟨i, hi, rfl⟩ := List.mem_map.1 hp
  have := List.mem_range.1 hi
  exact ⟨⟨by show (0 : Int) ≤ 100 + _; omega, by show (100 + _ : Int) ≤ _; omega⟩, by show z.size ≤ _; rw [hz]; decide, by show z.size ≤ _; rw [hz]; decide, by show z.size ≤ _; rw [hz]; decide⟩)
theorem rowN_el {z : ByteArray} (hz : z.size = 32) {m : Nat} (h0 : 0 < m) (hm : m ≤ 64) : elOk (rowN z m) = true := by
  refine elOk_of (by rw [rowN_len]; exact h0) (by rw [rowN_len]; exact hm) (followH_yes (fun i hi hi0 => ?_)) (laysH_yes (fun i hi => ?_))
  · rw [rowN_len] at hi
    rw [rowN_at z m i hi, rowN_at z m (i - 1) (by omega)]
    unfold stepH
    rw [decide_eq_true (by show (100 + _ : Int) < 100 + _; omega), decide_eq_true (by show (100 + _ : Int) - (100 + _) = 1; omega)]
    rfl
  · rw [rowN_len] at hi
    rw [rowN_at z m i hi, hOk_eq]
    show (decide (z.size = 32) && decide (z.size = 32) && decide (z.size = 32)) = true
    rw [hz]; rfl
theorem rowN_no {z : ByteArray} {m : Nat} (hm : 64 < m) : elOk (rowN z m) = false := by
  unfold elOk
  rw [rowN_len, decide_eq_false (show ¬ m ≤ 64 by omega)]
  simp
def bbT : ByteArray := ⟨#[98]⟩
def bodN (m : Nat) : List ByteArray := List.replicate m bbT
theorem bodN_len (m : Nat) : len (bodN m) = m := List.length_replicate
theorem bodN_snoc (m : Nat) : bodN (m + 1) = bodN m ++ [bbT] := List.replicate_succ'
theorem bodN_take (m n : Nat) (h : n ≤ m) : (bodN m).take n = bodN n := by unfold bodN; rw [List.take_replicate, Nat.min_eq_left h]
theorem bodN_at (m i : Nat) (h : i < m) : tth (bodN m) i = bbT := by
  unfold tth bodN
  rw [List.getD_eq_getElem?_getD, List.getElem?_replicate, if_pos h]
  rfl
theorem bodN_ok {m : Nat} (hm : m ≤ 64) : bodsOk (bodN m) = true := bod_yes (by rw [bodN_len]; exact hm) (fun i hi => by
  rw [bodN_len] at hi
  rw [bodN_at m i hi]
  decide)
theorem bodN_no {m : Nat} (hm : 64 < m) : bodsOk (bodN m) = false := by
  unfold bodsOk
  rw [bodN_len, decide_eq_false (show ¬ m ≤ 64 by omega)]
  rfl
theorem bods_a0 : bodsOk [⟨#[97]⟩, ⟨#[]⟩] = false := by decide
theorem bods_64 : bodsOk [zerN 64] = true := by decide
structure KnSt (z : ByteArray) (w wr : World) (u v : Value) (m : Nat) : Prop where
  b : Below w.heap.size w wr
  h : wr.ownsRow w.heap.size 33 4 u m ((rowN z m).flatMap Hdr.cells)
  t : wr.ownsRow w.heap.size 9 1 v m ((bodN m).map Value.string)
set_option maxRecDepth 100000 in
set_option maxHeartbeats 8000000 in
theorem known23_law (B : Nat) (w : World) (ht : PT B w) : Calls Tryz.prog 5 #[] w fun e w' => e = .returned (.bool true) ∧ Below w.heap.size w w' := by
  have HT := Lib.hid ht
  clear ht
  obtain ⟨i0, hi, hz0, hz1, hz2⟩ := info_parts info_hdr
  obtain ⟨j0, hj, hy0, hy1, hy2⟩ := info_parts info_str
  have HZ0 := Lib.hid hz0
  have HY0 := Lib.hid hy0
  clear hz0 hy0
  go_enter Tryz.func5, Tryz.ntmps5
  go_wp2_with fail
  refine (dig23_any ⟨#[]⟩ w (by decide)).mono ?_
  rintro e w1 ⟨rfl, hb⟩
  rw [digT_nil]
  have HB1 := Lib.hid hb
  clear hb
  have HA := Lib.hid (fun (n : Int) (w9 : World) => at23_any n zerT w9)
  unfold hAt at HA
  obtain ⟨z, hz⟩ : ∃ z, zerT = z := ⟨_, rfl⟩
  have HZ := Lib.hid hz
  have HZS : Hid (z.size = 32) := Lib.hid (by rw [← hz]; rfl)
  rw [hz] at HA ⊢
  clear hz
  go_wp2
  go_loopg [2, 3, 4] 65 (fun gg u v i wr => ∃ m : Nat, gg + m = 65 ∧ i = .int .u64 (m : Nat) ∧ Hid (KnSt z w wr u v m))
  case atStart => exact ⟨0, rfl, rfl, Lib.hid ⟨HB1.out, World.ownsRow_nil _ _ _ _, World.ownsRow_nil _ _ _ _⟩⟩
  case round =>
    obtain ⟨m, hm, rfl, HS⟩ := hrel
    by_cases hlt : m < 65
    · have b0 : (m : Int) < 65 := by omega
      have b1 : IntKind.u64.wrap (100 + ((m : Nat) : Int)) = 100 + ((m : Nat) : Int) := IntWalk.u64_in _ (by omega)
      have HLT := Lib.hid hlt
      clear hlt
      go_wp2_with fail
      refine (HA.out _ wr).mono ?_
      rintro e x1 ⟨rfl, hb⟩
      have HX1 : Hid (Below w.heap.size w x1) := Lib.hid (bnext HS.out.b hb)
      have HH1 := Lib.hid (own_below HS.out.h hb)
      have HT1 := Lib.hid (own_below HS.out.t hb)
      clear hb b1
      go_wp2_with (at_builtin; refine wpList_append_lies _ rfl _ _ 22 rfl w.heap.size 33 i0 Hdr.zero.val 4 56 Tryz.underlying22 hi HZ0.out hz1 hz2 rfl (by decide) _ m _ rfl (HH1.out.alloc _) ⟨x1.heap.size, 0, none⟩ 1 1 (Hdr.cells ⟨100 + ((m : Nat) : Int), z, z, z⟩) rfl rfl ?d1 (Hdr.cells_one _) (by decide) ?d4 ?d5 ?d6 _ rfl ?_)
      case d1 => exact World.news_of_block (alloc_new_at _ rfl)
      case d4 => unfold maxLen; have := HLT.out; omega
      case d5 => have := HLT.out; omega
      case d6 => have := HX1.out.size; simp; omega
      intro g cp x2 hown hgrow hat hgl
      have HX2 : Hid (Below w.heap.size w x2) := Lib.hid (grownBy_below (balloc HX1.out _) hgrow (fun q hq => (HH1.out.lt q hq).1))
      have HH2 : Hid (x2.ownsRow w.heap.size 33 4 (.slice (some ⟨g, 0, none⟩) (m + 1) cp) (m + 1) ((rowN z (m + 1)).flatMap Hdr.cells)) := Lib.hid (by
        rw [rowN_snoc, List.flatMap_append]
        simpa using hown)
      have HT2 : Hid (x2.ownsRow w.heap.size 9 1 u3 m ((bodN m).map Value.string)) := Lib.hid ((HT1.out.alloc _).kept hgrow (own_other HT1.out HH1.out (by decide)))
      clear hown hgrow hat hgl
      go_wp2_with (at_builtin; refine wpList_append_lies _ rfl _ _ 36 rfl w.heap.size 9 j0 (.string ⟨#[]⟩) 1 16 Tryz.underlying36 hj HY0.out hy1 hy2 rfl (by decide) _ m _ rfl (HT2.out.alloc _) ⟨x2.heap.size, 0, none⟩ 1 1 [.string bbT] rfl rfl ?d1 ?d2 (by decide) ?d4 ?d5 ?d6 _ rfl ?_)
      case d1 => exact World.news_of_block (alloc_new_at _ rfl)
      case d2 => intro u hu; simp at hu; subst hu; rfl
      case d4 => unfold maxLen; have := HLT.out; omega
      case d5 => have := HLT.out; omega
      case d6 => have := HX2.out.size; simp; omega
      intro g2 cp2 x3 hown hgrow hat hgl
      have HX3 : Hid (Below w.heap.size w x3) := Lib.hid (grownBy_below (balloc HX2.out _) hgrow (fun q hq => (HT2.out.lt q hq).1))
      have HT3 : Hid (x3.ownsRow w.heap.size 9 1 (.slice (some ⟨g2, 0, none⟩) (m + 1) cp2) (m + 1) ((bodN (m + 1)).map Value.string)) := Lib.hid (by
        rw [bodN_snoc, List.map_append]
        simpa using hown)
      have HH3 := Lib.hid ((HH2.out.alloc (.cells #[.string bbT] 9)).kept hgrow (own_other HH2.out HT2.out (by decide)))
      clear hown hgrow hat hgl
      go_wp2
      go_roundg (gk - 1)
      case rel => exact ⟨m + 1, by have := HLT.out; omega, by go_num, Lib.hid ⟨HX3.out, HH3.out, HT3.out⟩⟩
      case measure => omega
    · obtain rfl : m = 65 := by omega
      have b0 : ¬ ((65 : Nat) : Int) < 65 := by decide
      obtain ⟨am, cm, rfl, hh, hc⟩ := Hdrs.own (show wr.ownsRow w.heap.size 33 4 u2 65 ((rowN z 65).flatMap Hdr.cells) from HS.out.h)
      obtain ⟨ab, cb, rfl, hx, hcb, _⟩ := TextsAre.own (L := bodN 65) HS.out.t
      rw [rowN_len] at hc ⊢
      rw [bodN_len] at hcb ⊢
      have HHD := Lib.hid hh
      have HTX := Lib.hid hx
      have b1 : (64 : Int) ≤ cm := by omega
      have b2 : (64 : Int) ≤ cb := by omega
      have HWB := Lib.hid HS.out.b
      clear hh hx hm hlt
      have HTL : Hid ((rowN z 65).take 64 = rowN z 64 ∧ (bodN 65).take 64 = bodN 64) := Lib.hid ⟨rowN_take z 65 64 (by decide), bodN_take 65 64 (by decide)⟩
      have HOK : Hid (∀ m, m ≤ 1000 → ∀ i, (hnth (rowN z m) i).Ok) := Lib.hid (fun m h => rowN_ok HZS.out h)
      have HD64 := Lib.hid (HHD.out.take 64)
      have HT64 := Lib.hid (txts_take HTX.out 64)
      rw [HTL.out.1] at HD64
      rw [HTL.out.2] at HT64
      have HTB : Hid (∀ m, ∀ i, i < len (bodN m) → (tth (bodN m) i).size ≤ 1000000) := Lib.hid (fun m i hi => by
        rw [bodN_len] at hi
        rw [bodN_at m i hi]; decide)
      go_wp2_with fail
      refine (show Calls Tryz.prog 17 #[.slice am 64 cm] wr (RtIs (rowN z 64) wr) from by
        have := hroot_any B (rowN z 64) am cm wr (HT.out.below HWB.out) HD64.out (HOK.out 64 (by decide)) (by rw [rowN_len]; decide)
        rw [rowN_len] at this; exact this).mono ?_
      rintro e x1 ⟨rfl, hb⟩
      have z1 : rtE (rowN z 64) = 0 := if_pos (rowN_el HZS.out (by decide) (by decide))
      rw [z1]
      have HX1 : Hid (Below wr.heap.size wr x1) := Lib.hid hb
      clear hb z1 b1
      go_wp2_with fail
      refine (show Calls Tryz.prog 24 #[.slice ab 64 cb] x1 (TxIs (bodN 64) x1) from by
        have := htxns_any (bodN 64) ab cb x1 (by rw [bodN_len]; decide) (HT64.out.below HX1.out) (HTB.out 64)
        rw [bodN_len] at this; exact this).mono ?_
      rintro e x2 ⟨rfl, hb⟩
      have z1 : txE (bodN 64) = 0 := if_pos (bodN_ok (by decide))
      rw [z1]
      have HX2 : Hid (Below wr.heap.size wr x2) := Lib.hid (bnext HX1.out hb)
      clear hb z1 b2
      go_wp2_with fail
      refine (show Calls Tryz.prog 24 #[.slice ab 65 cb] x2 (TxIs (bodN 65) x2) from by
        have := htxns_any (bodN 65) ab cb x2 (by rw [bodN_len]; decide) (HTX.out.below HX2.out) (HTB.out 65)
        rw [bodN_len] at this; exact this).mono ?_
      rintro e x3 ⟨rfl, hb⟩
      have z1 : txE (bodN 65) = 2 := if_neg (by rw [bodN_no (by decide)]; decide)
      rw [z1]
      have HX3 : Hid (Below wr.heap.size wr x3) := Lib.hid (bnext HX2.out hb)
      clear hb z1
      go_wp2_with fail
      refine (htxns_any [⟨#[97]⟩, ⟨#[]⟩] (some ⟨x3.heap.size, 0, none⟩) 2 _ (by decide) (fun i hi => ⟨_, 0, rfl, by
        have hi : i < 2 := hi
        rw [block_cell (heap_alloc_new _ _), Nat.zero_add]
        have : i = 0 ∨ i = 1 := by omega
        rcases this with rfl | rfl <;> rfl⟩) (fun i hi => by
        have hi : i < 2 := hi
        have : i = 0 ∨ i = 1 := by omega
        rcases this with rfl | rfl <;> decide)).mono ?_
      rintro e x4 ⟨rfl, hb⟩
      have z1 : txE [⟨#[97]⟩, ⟨#[]⟩] = 2 := if_neg (by rw [bods_a0]; decide)
      rw [z1]
      have HX4 : Hid (Below wr.heap.size wr x4) := Lib.hid (bnext (balloc HX3.out _) hb)
      clear hb z1
      obtain ⟨W5, mk, hb5, cv⟩ := make_zb 64 64 rfl (by decide) x4
      obtain ⟨z64, hz64⟩ : ∃ z64, zerN 64 = z64 := ⟨_, rfl⟩
      have HZ64 : Hid (bodsOk [z64] = true ∧ z64.size = 64) := Lib.hid (by rw [← hz64]; exact ⟨bods_64, zerN_size 64⟩)
      rw [hz64] at cv
      have HX5 : Hid (Below wr.heap.size wr W5) := Lib.hid (bnext HX4.out hb5)
      clear hz64 hb5
      go_wp2_with fail
      refine (htxns_any [z64] (some ⟨W5.heap.size, 0, none⟩) 1 _ (show 1 ≤ 65536 by decide) (one_txts1 (heap_alloc_new _ _)) (fun i hi => by
        have hi : i < 1 := hi
        obtain rfl : i = 0 := by omega
        show z64.size ≤ _
        rw [HZ64.out.2]; decide)).mono ?_
      rintro e x6 ⟨rfl, hb⟩
      have z1 : txE [z64] = 0 := if_pos HZ64.out.1
      rw [z1]
      have HX6 : Hid (Below wr.heap.size wr x6) := Lib.hid (bnext (balloc HX5.out _) hb)
      clear hb z1 mk cv
      go_wp2_with fail
      refine (HA.out 6 x6).mono ?_
      rintro e x7 ⟨rfl, hb⟩
      have HX7 : Hid (Below wr.heap.size wr x7) := Lib.hid (bnext HX6.out hb)
      have hzs := HZS.out
      obtain ⟨y, hy⟩ : ∃ y, z.extract 1 32 = y := ⟨_, rfl⟩
      have HYS : Hid (y.size = 31) := Lib.hid (by rw [← hy, ByteArray.size_extract]; omega)
      clear hb
      go_upto_region 16 with fail
      clear hzs hy
      obtain ⟨V, hV⟩ : ∃ V, x7.alloc (.cells #[.int .u64 6, .string z, .string z, .string y] 33) = V := ⟨_, rfl⟩
      obtain ⟨xb, hxb⟩ : ∃ xb, x7.heap.size = xb := ⟨_, rfl⟩
      have HXV : Hid (Below wr.heap.size wr V) := Lib.hid (by rw [← hV]; exact balloc HX7.out _)
      have HVB : Hid (V.heap[xb]? = some (.cells #[.int .u64 6, .string z, .string z, .string y] 33 (0, 0))) := Lib.hid (by rw [← hV, ← hxb]; exact heap_alloc_new _ _)
      rw [hV, hxb]
      clear hV hxb
      go_wp2_with fail
      refine (HA.out 18446744073709551615 V).mono ?_
      rintro e x8 ⟨rfl, hb⟩
      have HX8 : Hid (Below wr.heap.size wr x8) := Lib.hid (bnext HXV.out hb)
      have H8B := Lib.hid ((hb.block _ (lt_of_block HVB.out)).trans HVB.out)
      clear hb
      go_upto_region 17 with fail
      obtain ⟨U, hU⟩ : ∃ U, x8.alloc (.cells #[.int .u64 18446744073709551615, .string z, .string z, .string z] 33) = U := ⟨_, rfl⟩
      obtain ⟨yb, hyb⟩ : ∃ yb, x8.heap.size = yb := ⟨_, rfl⟩
      have HXU : Hid (Below wr.heap.size wr U) := Lib.hid (by rw [← hU]; exact balloc HX8.out _)
      have HUY : Hid (U.heap[yb]? = some (.cells #[.int .u64 18446744073709551615, .string z, .string z, .string z] 33 (0, 0))) := Lib.hid (by rw [← hU, ← hyb]; exact heap_alloc_new _ _)
      have HUX : Hid (U.heap[xb]? = some (.cells #[.int .u64 6, .string z, .string z, .string y] 33 (0, 0))) := Lib.hid (by rw [← hU]; exact block_alloc H8B.out _)
      rw [hU, hyb]
      clear hU hyb
      have HBO : Hid ((⟨6, z, z, y⟩ : Hdr).Ok) := Lib.hid ⟨(show U64i 6 from ⟨by decide, by decide⟩), by show z.size ≤ _; rw [HZS.out]; decide, by show z.size ≤ _; rw [HZS.out]; decide, by show y.size ≤ _; rw [HYS.out]; decide⟩
      have HBN : Hid (hOk ⟨6, z, z, y⟩ = false) := Lib.hid (by
        rw [hOk_eq]
        show (decide (z.size = 32) && decide (y.size = 32) && decide (z.size = 32)) = false
        rw [HYS.out]; simp)
      have c : ∀ o, U.cell? ⟨xb, o, none⟩ = _ := block_cell HUX.out
      go_wp2_with fail
      refine (hdig_any B ⟨6, z, z, y⟩ U ((HT.out.below HWB.out).below HXU.out) HBO.out).mono ?_
      rintro e x9 ⟨rfl, hb⟩
      have z1 : dgE ⟨6, z, z, y⟩ = 2 := if_neg (by rw [HBN.out]; decide)
      rw [z1]
      have HX9 : Hid (Below wr.heap.size wr x9) := Lib.hid (bnext HXU.out hb)
      have H9X := Lib.hid ((hb.block _ (lt_of_block HUX.out)).trans HUX.out)
      have H9Y := Lib.hid ((hb.block _ (lt_of_block HUY.out)).trans HUY.out)
      clear hb z1 c
      go_upto_region 18 with fail
      have c0 : x9.cell? ⟨xb, 0, none⟩ = some (.int .u64 6) := block_cell H9X.out 0
      have c1 : x9.cell? ⟨xb, 1, none⟩ = some (.string z) := block_cell H9X.out 1
      have c2 : x9.cell? ⟨xb, 2, none⟩ = some (.string z) := block_cell H9X.out 2
      have c3 : x9.cell? ⟨xb, 3, none⟩ = some (.string y) := block_cell H9X.out 3
      have d0 : x9.cell? ⟨yb, 0, none⟩ = some (.int .u64 18446744073709551615) := block_cell H9Y.out 0
      have d1 : x9.cell? ⟨yb, 1, none⟩ = some (.string z) := block_cell H9Y.out 1
      have d2 : x9.cell? ⟨yb, 2, none⟩ = some (.string z) := block_cell H9Y.out 2
      have d3 : x9.cell? ⟨yb, 3, none⟩ = some (.string z) := block_cell H9Y.out 3
      have HTW := Lib.hid ((HT.out.below HWB.out).below HX9.out)
      have ok1 : ∀ n : Int, U64i n → (⟨n, z, z, z⟩ : Hdr).Ok := fun n hn => ⟨hn, by show z.size ≤ _; rw [HZS.out]; decide, by show z.size ≤ _; rw [HZS.out]; decide, by show z.size ≤ _; rw [HZS.out]; decide⟩
      have lift : ∀ {F : FuncId} (L : List Hdr) (v : Bool) (cs : Array Value), (L.flatMap Hdr.cells).toArray = cs → (∀ (a : Option Addr) (c : Nat) (w9 : World), PT B w9 → Hdrs w9 a L → Calls Tryz.prog F #[.slice a (len L) c] w9 fun e w' => e = .returned (.bool v) ∧ Below w9.heap.size w9 w') →
          ∀ (w9 : World) (b : Nat), Below x9.heap.size x9 w9 → w9.heap[b]? = some (.cells cs 33 (0, 0)) → Calls Tryz.prog F #[.slice (some ⟨b, 0, none⟩) (len L) (len L)] w9 fun e w' => e = .returned (.bool v) ∧ Below w9.heap.size w9 w' :=
        fun L v cs hcs hh w9 b hp hb => hh _ _ w9 (HTW.out.below hp) (Hdrs.block (by rw [hcs]; exact hb))
      have HF1 := Lib.hid (lift (F := 28) [⟨5, z, z, z⟩, ⟨6, z, z, y⟩] true _ rfl (fun a c w9 hp hh => by
        have := refused_any B _ a c w9 hp hh (oks2 (ok1 5 ⟨by decide, by decide⟩) HBO.out) (show 2 ≤ 100000 by decide)
        rw [lay_no (l := [⟨5, z, z, z⟩, ⟨6, z, z, y⟩]) (m := 1) (show 1 < 2 by decide) HBN.out] at this
        exact this))
      have HF2 := Lib.hid (lift (F := 28) [⟨18446744073709551615, z, z, z⟩, ⟨0, z, z, z⟩] true _ rfl (fun a c w9 hp hh => by
        have := refused_any B _ a c w9 hp hh (oks2 (ok1 _ ⟨by decide, by decide⟩) (ok1 0 ⟨by decide, by decide⟩)) (show 2 ≤ 100000 by decide)
        rw [step_no (l := [⟨18446744073709551615, z, z, z⟩, ⟨0, z, z, z⟩]) (m := 0) (show 1 < 2 by decide) (by rfl)] at this
        exact this))
      have HF3 := Lib.hid (lift (F := 28) [⟨6, z, z, z⟩, ⟨5, z, z, z⟩] true _ rfl (fun a c w9 hp hh => by
        have := refused_any B _ a c w9 hp hh (oks2 (ok1 6 ⟨by decide, by decide⟩) (ok1 5 ⟨by decide, by decide⟩)) (show 2 ≤ 100000 by decide)
        rw [step_no (l := [⟨6, z, z, z⟩, ⟨5, z, z, z⟩]) (m := 0) (show 1 < 2 by decide) (by rfl)] at this
        exact this))
      have HL1 := Lib.hid (lift (F := 19) [⟨18446744073709551615, z, z, z⟩] true _ rfl (fun a c w9 hp hh => by
        have := hlinked_any B _ a c w9 hp hh (oks1 (ok1 _ ⟨by decide, by decide⟩)) (show 1 ≤ 100000 by decide)
        have hl := linked1 18446744073709551615 zerT rfl
        unfold hAt at hl
        rw [HZ.out] at hl
        rw [hl] at this
        exact this))
      have HL0 := Lib.hid (fun w9 (hw : Below x9.heap.size x9 w9) => hlinked_any B [] none 0 w9 (HTW.out.below hw) (Hdrs.nil _ _) (hoks (fun p hp => by cases hp)) (by decide))
      have el0 : linkedH [] = false := by decide
      rw [el0] at HL0
      have HRM := Lib.hid (fun w9 (hw : Below x9.heap.size x9 w9) => (show Calls Tryz.prog 28 #[.slice am 65 cm] w9 (fun e w' => e = .returned (.bool true) ∧ Below w9.heap.size w9 w') from by
        have := refused_any B (rowN z 65) am cm w9 (HTW.out.below hw) ((HHD.out.below HX9.out).below hw) (HOK.out 65 (by decide)) (by rw [rowN_len]; decide)
        rw [rowN_len, rowN_no (by decide)] at this; exact this))
      have HWK := Lib.hid (fun w9 (hw : Below x9.heap.size x9 w9) => works23_any B w9 (HTW.out.below hw))
      have HA5 := Lib.hid (fun w9 => HA.out 5 w9)
      have HA6 := Lib.hid (fun w9 => HA.out 6 w9)
      have HA0 := Lib.hid (fun w9 => HA.out 0 w9)
      clear lift ok1 el0
      refine wp_region_all 1000 (none) (phis [fun u _ => u = (.bool true), fun u _ => u = (.bool true), fun u _ => u = (.bool true), fun u _ => u = (.bool true), fun u _ => u = (.int .i64 0), fun u _ => u = (.bool true), fun u _ => u = (.bool true), fun u _ => u = (.bool true), fun u _ => u = (.int .i64 0), fun u _ => u = (.bool true), fun u _ => u = (.bool true), fun u _ => u = (.bool true), fun u _ => u = (.int .i64 2), fun u _ => u = (.bool true), fun u _ => u = (.bool true), fun u _ => u = (.bool true), fun u _ => u = (.int .i64 2), fun u _ => u = (.bool true), fun u _ => u = (.bool true), fun u _ => u = (.bool true), fun u _ => u = (.int .i64 0), fun u _ => u = (.bool true), fun u _ => u = (.bool true), fun u _ => u = (.bool true), fun u _ => u = (.int .i64 2), fun u _ => u = (.bool true), fun u _ => u = (.bool true), fun u _ => u = (.bool true), fun u _ => u = (.slice am 65 cm), fun u _ => u = (.bool true), fun u _ => u = (.bool true), fun u _ => u = (.bool true), fun u _ => u = (.string z), fun u _ => u = (.agg #[.int .u64 5, .string z, .string z, .string z]), fun u _ => u = (.agg #[.int .u64 6, .string z, .string z, .string y]), fun u w' => ∃ b, u = .slice (some ⟨b, 0, none⟩) 2 2 ∧ w'.heap[b]? = some (.cells #[.int .u64 5, .string z, .string z, .string z, .int .u64 6, .string z, .string z, .string y] 33 (0, 0)), fun u _ => u = (.bool true), fun u _ => u = (.bool true), fun u _ => u = (.bool true), fun u _ => u = (.agg #[.int .u64 18446744073709551615, .string z, .string z, .string z]), fun u _ => u = (.string z), fun u _ => u = (.agg #[.int .u64 0, .string z, .string z, .string z]), fun u w' => ∃ b, u = .slice (some ⟨b, 0, none⟩) 2 2 ∧ w'.heap[b]? = some (.cells #[.int .u64 18446744073709551615, .string z, .string z, .string z, .int .u64 0, .string z, .string z, .string z] 33 (0, 0)), fun u _ => u = (.bool true), fun u _ => u = (.bool true), fun u _ => u = (.bool true), fun u _ => u = (.string z), fun u _ => u = (.agg #[.int .u64 6, .string z, .string z, .string z]), fun u _ => u = (.string z), fun u _ => u = (.agg #[.int .u64 5, .string z, .string z, .string z]), fun u w' => ∃ b, u = .slice (some ⟨b, 0, none⟩) 2 2 ∧ w'.heap[b]? = some (.cells #[.int .u64 6, .string z, .string z, .string z, .int .u64 5, .string z, .string z, .string z] 33 (0, 0)), fun u _ => u = (.bool true), fun u _ => u = (.bool true), fun u _ => u = (.bool true), fun u _ => u = (.agg #[.int .u64 18446744073709551615, .string z, .string z, .string z]), fun u w' => ∃ b, u = .slice (some ⟨b, 0, none⟩) 1 1 ∧ w'.heap[b]? = some (.cells #[.int .u64 18446744073709551615, .string z, .string z, .string z] 33 (0, 0)), fun u _ => u = (.bool true), fun u _ => u = (.bool true), fun u _ => u = (.bool true), fun u _ => u = (.bool false), fun u _ => u = (.bool true), fun u _ => u = (.bool true), fun u _ => u = (.bool true)]) rfl (by kernel_rfl) (mono_of ⟨mono_eq, mono_eq, mono_eq, mono_eq, mono_eq, mono_eq, mono_eq, mono_eq, mono_eq, mono_eq, mono_eq, mono_eq, mono_eq, mono_eq, mono_eq, mono_eq, mono_eq, mono_eq, mono_eq, mono_eq, mono_eq, mono_eq, mono_eq, mono_eq, mono_eq, mono_eq, mono_eq, mono_eq, mono_eq, mono_eq, mono_eq, mono_eq, mono_eq, mono_eq, mono_eq, ?m35, mono_eq, mono_eq, mono_eq, mono_eq, mono_eq, mono_eq, ?m42, mono_eq, mono_eq, mono_eq, mono_eq, mono_eq, mono_eq, mono_eq, ?m50, mono_eq, mono_eq, mono_eq, mono_eq, ?m55, mono_eq, mono_eq, mono_eq, mono_eq, mono_eq, mono_eq, mono_eq, trivial⟩) (steps_of 63 ⟨?s0, ?s1, ?s2, ?s3, ?s4, ?s5, ?s6, ?s7, ?s8, ?s9, ?s10, ?s11, ?s12, ?s13, ?s14, ?s15, ?s16, ?s17, ?s18, ?s19, ?s20, ?s21, ?s22, ?s23, ?s24, ?s25, ?s26, ?s27, ?s28, ?s29, ?s30, ?s31, ?s32, ?s33, ?s34, ?s35, ?s36, ?s37, ?s38, ?s39, ?s40, ?s41, ?s42, ?s43, ?s44, ?s45, ?s46, ?s47, ?s48, ?s49, ?s50, ?s51, ?s52, ?s53, ?s54, ?s55, ?s56, ?s57, ?s58, ?s59, ?s60, ?s61, ?s62, trivial⟩) ?_
      case m35 =>
        exact ⟨fun u w1 w' h ⟨b, h1, hb⟩ => ⟨b, h1, ext_block h hb⟩, fun _ u w1 w' h ⟨b, h1, hb⟩ => ⟨b, h1, extB_block h (by simp) hb⟩⟩
      case m42 =>
        exact ⟨fun u w1 w' h ⟨b, h1, hb⟩ => ⟨b, h1, ext_block h hb⟩, fun _ u w1 w' h ⟨b, h1, hb⟩ => ⟨b, h1, extB_block h (by simp) hb⟩⟩
      case m50 =>
        exact ⟨fun u w1 w' h ⟨b, h1, hb⟩ => ⟨b, h1, ext_block h hb⟩, fun _ u w1 w' h ⟨b, h1, hb⟩ => ⟨b, h1, extB_block h (by simp) hb⟩⟩
      case m55 =>
        exact ⟨fun u w1 w' h ⟨b, h1, hb⟩ => ⟨b, h1, ext_block h hb⟩, fun _ u w1 w' h ⟨b, h1, hb⟩ => ⟨b, h1, extB_block h (by simp) hb⟩⟩
      case s0 =>
        refine step_val (v := (.bool true)) (fun av wv hE hS hO hD => ?_) (fun _ => rfl)
        refine ⟨rfl, ?_⟩
        simp [go_sem]
      case s1 =>
        refine step_wp (fun av wv hE hS hO hD => ?_)
        have d75 : av.eval (.tmp 75) = (.bool true) := hD.1 rfl _ rfl
        have f75 := (ev_form av 75).symm.trans d75
        refine ⟨(wanted_of (d := 75) (b := true) (want := true) rfl rfl rfl d75), ?_⟩
        refine wp_of_call (v := .bool true) (by simp [go_sem]) (HWK.out wv (of_drew hE)) (fun w2 hb => ⟨_, rfl, es_of_ext hb, rfl⟩)
      case s2 =>
        refine step_val (v := (.bool true)) (fun av wv hE hS hO hD => ?_) (fun _ => rfl)
        have d75 : av.eval (.tmp 75) = (.bool true) := hD.1 rfl _ rfl
        have f75 := (ev_form av 75).symm.trans d75
        have d76 : av.eval (.tmp 76) = (.bool true) := hD.2.1 rfl _ rfl
        have f76 := (ev_form av 76).symm.trans d76
        refine ⟨rfl, ?_⟩
        simp [go_sem, f75, f76]
      case s3 =>
        refine step_val (v := (.bool true)) (fun av wv hE hS hO hD => ?_) (fun _ => rfl)
        have d77 : av.eval (.tmp 77) = (.bool true) := hD.1 rfl _ rfl
        have f77 := (ev_form av 77).symm.trans d77
        refine ⟨rfl, ?_⟩
        simp [go_sem, f77]
      case s4 =>
        refine step_val (v := (.int .i64 0)) (fun av wv hE hS hO hD => ?_) (fun _ => rfl)
        have h6 : av.eval (.tmp 6) = (.int .i64 0) := hO.2.2 6 rfl
        have f6 := (ev_form av 6).symm.trans h6
        have d78 : av.eval (.tmp 78) = (.bool true) := hD.1 rfl _ rfl
        have f78 := (ev_form av 78).symm.trans d78
        refine ⟨(wanted_of (d := 78) (b := true) (want := true) rfl rfl rfl d78), ?_⟩
        simp [go_sem, f6, f78]
      case s5 =>
        refine step_val (v := (.bool true)) (fun av wv hE hS hO hD => ?_) (fun _ => rfl)
        have d79 : av.eval (.tmp 79) = (.int .i64 0) := hD.1 rfl _ rfl
        have f79 := (ev_form av 79).symm.trans d79
        have d78 : av.eval (.tmp 78) = (.bool true) := hD.2.1 rfl _ rfl
        have f78 := (ev_form av 78).symm.trans d78
        refine ⟨(wanted_of (d := 78) (b := true) (want := true) rfl rfl rfl d78), ?_⟩
        simp [go_sem, f79, f78]
      case s6 =>
        refine step_val (v := (.bool true)) (fun av wv hE hS hO hD => ?_) (fun _ => rfl)
        have d78 : av.eval (.tmp 78) = (.bool true) := hD.1 rfl _ rfl
        have f78 := (ev_form av 78).symm.trans d78
        have d80 : av.eval (.tmp 80) = (.bool true) := hD.2.1 rfl _ rfl
        have f80 := (ev_form av 80).symm.trans d80
        refine ⟨rfl, ?_⟩
        simp [go_sem, f78, f80]
      case s7 =>
        refine step_val (v := (.bool true)) (fun av wv hE hS hO hD => ?_) (fun _ => rfl)
        have d81 : av.eval (.tmp 81) = (.bool true) := hD.1 rfl _ rfl
        have f81 := (ev_form av 81).symm.trans d81
        refine ⟨rfl, ?_⟩
        simp [go_sem, f81]
      case s8 =>
        refine step_val (v := (.int .i64 0)) (fun av wv hE hS hO hD => ?_) (fun _ => rfl)
        have h8 : av.eval (.tmp 8) = (.int .i64 0) := hO.2.2 8 rfl
        have f8 := (ev_form av 8).symm.trans h8
        have d82 : av.eval (.tmp 82) = (.bool true) := hD.1 rfl _ rfl
        have f82 := (ev_form av 82).symm.trans d82
        refine ⟨(wanted_of (d := 82) (b := true) (want := true) rfl rfl rfl d82), ?_⟩
        simp [go_sem, f8, f82]
      case s9 =>
        refine step_val (v := (.bool true)) (fun av wv hE hS hO hD => ?_) (fun _ => rfl)
        have d83 : av.eval (.tmp 83) = (.int .i64 0) := hD.1 rfl _ rfl
        have f83 := (ev_form av 83).symm.trans d83
        have d82 : av.eval (.tmp 82) = (.bool true) := hD.2.1 rfl _ rfl
        have f82 := (ev_form av 82).symm.trans d82
        refine ⟨(wanted_of (d := 82) (b := true) (want := true) rfl rfl rfl d82), ?_⟩
        simp [go_sem, f83, f82]
      case s10 =>
        refine step_val (v := (.bool true)) (fun av wv hE hS hO hD => ?_) (fun _ => rfl)
        have d82 : av.eval (.tmp 82) = (.bool true) := hD.1 rfl _ rfl
        have f82 := (ev_form av 82).symm.trans d82
        have d84 : av.eval (.tmp 84) = (.bool true) := hD.2.1 rfl _ rfl
        have f84 := (ev_form av 84).symm.trans d84
        refine ⟨rfl, ?_⟩
        simp [go_sem, f82, f84]
      case s11 =>
        refine step_val (v := (.bool true)) (fun av wv hE hS hO hD => ?_) (fun _ => rfl)
        have d85 : av.eval (.tmp 85) = (.bool true) := hD.1 rfl _ rfl
        have f85 := (ev_form av 85).symm.trans d85
        refine ⟨rfl, ?_⟩
        simp [go_sem, f85]
      case s12 =>
        refine step_val (v := (.int .i64 2)) (fun av wv hE hS hO hD => ?_) (fun _ => rfl)
        have h10 : av.eval (.tmp 10) = (.int .i64 2) := hO.2.2 10 rfl
        have f10 := (ev_form av 10).symm.trans h10
        have d86 : av.eval (.tmp 86) = (.bool true) := hD.1 rfl _ rfl
        have f86 := (ev_form av 86).symm.trans d86
        refine ⟨(wanted_of (d := 86) (b := true) (want := true) rfl rfl rfl d86), ?_⟩
        simp [go_sem, f10, f86]
      case s13 =>
        refine step_val (v := (.bool true)) (fun av wv hE hS hO hD => ?_) (fun _ => rfl)
        have d87 : av.eval (.tmp 87) = (.int .i64 2) := hD.1 rfl _ rfl
        have f87 := (ev_form av 87).symm.trans d87
        have d86 : av.eval (.tmp 86) = (.bool true) := hD.2.1 rfl _ rfl
        have f86 := (ev_form av 86).symm.trans d86
        refine ⟨(wanted_of (d := 86) (b := true) (want := true) rfl rfl rfl d86), ?_⟩
        simp [go_sem, f87, f86]
      case s14 =>
        refine step_val (v := (.bool true)) (fun av wv hE hS hO hD => ?_) (fun _ => rfl)
        have d86 : av.eval (.tmp 86) = (.bool true) := hD.1 rfl _ rfl
        have f86 := (ev_form av 86).symm.trans d86
        have d88 : av.eval (.tmp 88) = (.bool true) := hD.2.1 rfl _ rfl
        have f88 := (ev_form av 88).symm.trans d88
        refine ⟨rfl, ?_⟩
        simp [go_sem, f86, f88]
      case s15 =>
        refine step_val (v := (.bool true)) (fun av wv hE hS hO hD => ?_) (fun _ => rfl)
        have d89 : av.eval (.tmp 89) = (.bool true) := hD.1 rfl _ rfl
        have f89 := (ev_form av 89).symm.trans d89
        refine ⟨rfl, ?_⟩
        simp [go_sem, f89]
      case s16 =>
        refine step_val (v := (.int .i64 2)) (fun av wv hE hS hO hD => ?_) (fun _ => rfl)
        have h12 : av.eval (.tmp 12) = (.int .i64 2) := hO.2.2 12 rfl
        have f12 := (ev_form av 12).symm.trans h12
        have d90 : av.eval (.tmp 90) = (.bool true) := hD.1 rfl _ rfl
        have f90 := (ev_form av 90).symm.trans d90
        refine ⟨(wanted_of (d := 90) (b := true) (want := true) rfl rfl rfl d90), ?_⟩
        simp [go_sem, f12, f90]
      case s17 =>
        refine step_val (v := (.bool true)) (fun av wv hE hS hO hD => ?_) (fun _ => rfl)
        have d91 : av.eval (.tmp 91) = (.int .i64 2) := hD.1 rfl _ rfl
        have f91 := (ev_form av 91).symm.trans d91
        have d90 : av.eval (.tmp 90) = (.bool true) := hD.2.1 rfl _ rfl
        have f90 := (ev_form av 90).symm.trans d90
        refine ⟨(wanted_of (d := 90) (b := true) (want := true) rfl rfl rfl d90), ?_⟩
        simp [go_sem, f91, f90]
      case s18 =>
        refine step_val (v := (.bool true)) (fun av wv hE hS hO hD => ?_) (fun _ => rfl)
        have d90 : av.eval (.tmp 90) = (.bool true) := hD.1 rfl _ rfl
        have f90 := (ev_form av 90).symm.trans d90
        have d92 : av.eval (.tmp 92) = (.bool true) := hD.2.1 rfl _ rfl
        have f92 := (ev_form av 92).symm.trans d92
        refine ⟨rfl, ?_⟩
        simp [go_sem, f90, f92]
      case s19 =>
        refine step_val (v := (.bool true)) (fun av wv hE hS hO hD => ?_) (fun _ => rfl)
        have d93 : av.eval (.tmp 93) = (.bool true) := hD.1 rfl _ rfl
        have f93 := (ev_form av 93).symm.trans d93
        refine ⟨rfl, ?_⟩
        simp [go_sem, f93]
      case s20 =>
        refine step_val (v := (.int .i64 0)) (fun av wv hE hS hO hD => ?_) (fun _ => rfl)
        have h14 : av.eval (.tmp 14) = (.int .i64 0) := hO.2.2 14 rfl
        have f14 := (ev_form av 14).symm.trans h14
        have d94 : av.eval (.tmp 94) = (.bool true) := hD.1 rfl _ rfl
        have f94 := (ev_form av 94).symm.trans d94
        refine ⟨(wanted_of (d := 94) (b := true) (want := true) rfl rfl rfl d94), ?_⟩
        simp [go_sem, f14, f94]
      case s21 =>
        refine step_val (v := (.bool true)) (fun av wv hE hS hO hD => ?_) (fun _ => rfl)
        have d95 : av.eval (.tmp 95) = (.int .i64 0) := hD.1 rfl _ rfl
        have f95 := (ev_form av 95).symm.trans d95
        have d94 : av.eval (.tmp 94) = (.bool true) := hD.2.1 rfl _ rfl
        have f94 := (ev_form av 94).symm.trans d94
        refine ⟨(wanted_of (d := 94) (b := true) (want := true) rfl rfl rfl d94), ?_⟩
        simp [go_sem, f95, f94]
      case s22 =>
        refine step_val (v := (.bool true)) (fun av wv hE hS hO hD => ?_) (fun _ => rfl)
        have d94 : av.eval (.tmp 94) = (.bool true) := hD.1 rfl _ rfl
        have f94 := (ev_form av 94).symm.trans d94
        have d96 : av.eval (.tmp 96) = (.bool true) := hD.2.1 rfl _ rfl
        have f96 := (ev_form av 96).symm.trans d96
        refine ⟨rfl, ?_⟩
        simp [go_sem, f94, f96]
      case s23 =>
        refine step_val (v := (.bool true)) (fun av wv hE hS hO hD => ?_) (fun _ => rfl)
        have d97 : av.eval (.tmp 97) = (.bool true) := hD.1 rfl _ rfl
        have f97 := (ev_form av 97).symm.trans d97
        refine ⟨rfl, ?_⟩
        simp [go_sem, f97]
      case s24 =>
        refine step_val (v := (.int .i64 2)) (fun av wv hE hS hO hD => ?_) (fun _ => rfl)
        have h18 : av.eval (.tmp 18) = (.int .i64 2) := hO.2.2 18 rfl
        have f18 := (ev_form av 18).symm.trans h18
        have d98 : av.eval (.tmp 98) = (.bool true) := hD.1 rfl _ rfl
        have f98 := (ev_form av 98).symm.trans d98
        refine ⟨(wanted_of (d := 98) (b := true) (want := true) rfl rfl rfl d98), ?_⟩
        simp [go_sem, f18, f98]
      case s25 =>
        refine step_val (v := (.bool true)) (fun av wv hE hS hO hD => ?_) (fun _ => rfl)
        have d99 : av.eval (.tmp 99) = (.int .i64 2) := hD.1 rfl _ rfl
        have f99 := (ev_form av 99).symm.trans d99
        have d98 : av.eval (.tmp 98) = (.bool true) := hD.2.1 rfl _ rfl
        have f98 := (ev_form av 98).symm.trans d98
        refine ⟨(wanted_of (d := 98) (b := true) (want := true) rfl rfl rfl d98), ?_⟩
        simp [go_sem, f99, f98]
      case s26 =>
        refine step_val (v := (.bool true)) (fun av wv hE hS hO hD => ?_) (fun _ => rfl)
        have d98 : av.eval (.tmp 98) = (.bool true) := hD.1 rfl _ rfl
        have f98 := (ev_form av 98).symm.trans d98
        have d100 : av.eval (.tmp 100) = (.bool true) := hD.2.1 rfl _ rfl
        have f100 := (ev_form av 100).symm.trans d100
        refine ⟨rfl, ?_⟩
        simp [go_sem, f98, f100]
      case s27 =>
        refine step_val (v := (.bool true)) (fun av wv hE hS hO hD => ?_) (fun _ => rfl)
        have d101 : av.eval (.tmp 101) = (.bool true) := hD.1 rfl _ rfl
        have f101 := (ev_form av 101).symm.trans d101
        refine ⟨rfl, ?_⟩
        simp [go_sem, f101]
      case s28 =>
        refine step_val (v := (.slice am 65 cm)) (fun av wv hE hS hO hD => ?_) (fun _ => rfl)
        have h2 : av.eval (.tmp 2) = (.slice am 65 cm) := hO.2.2 2 rfl
        have f2 := (ev_form av 2).symm.trans h2
        have d102 : av.eval (.tmp 102) = (.bool true) := hD.1 rfl _ rfl
        have f102 := (ev_form av 102).symm.trans d102
        refine ⟨(wanted_of (d := 102) (b := true) (want := true) rfl rfl rfl d102), ?_⟩
        simp [go_sem, f2, f102]
      case s29 =>
        refine step_wp (fun av wv hE hS hO hD => ?_)
        have d103 : av.eval (.tmp 103) = (.slice am 65 cm) := hD.1 rfl _ rfl
        have f103 := (ev_form av 103).symm.trans d103
        have d102 : av.eval (.tmp 102) = (.bool true) := hD.2.1 rfl _ rfl
        have f102 := (ev_form av 102).symm.trans d102
        refine ⟨(wanted_of (d := 102) (b := true) (want := true) rfl rfl rfl d102), ?_⟩
        refine wp_of_call (v := .bool true) (by simp [go_sem, f103]) (HRM.out wv (of_drew hE)) (fun w2 hb => ⟨_, rfl, es_of_ext hb, rfl⟩)
      case s30 =>
        refine step_val (v := (.bool true)) (fun av wv hE hS hO hD => ?_) (fun _ => rfl)
        have d102 : av.eval (.tmp 102) = (.bool true) := hD.1 rfl _ rfl
        have f102 := (ev_form av 102).symm.trans d102
        have d104 : av.eval (.tmp 104) = (.bool true) := hD.2.1 rfl _ rfl
        have f104 := (ev_form av 104).symm.trans d104
        refine ⟨rfl, ?_⟩
        simp [go_sem, f102, f104]
      case s31 =>
        refine step_val (v := (.bool true)) (fun av wv hE hS hO hD => ?_) (fun _ => rfl)
        have d105 : av.eval (.tmp 105) = (.bool true) := hD.1 rfl _ rfl
        have f105 := (ev_form av 105).symm.trans d105
        refine ⟨rfl, ?_⟩
        simp [go_sem, f105]
      case s32 =>
        refine step_val (v := (.string z)) (fun av wv hE hS hO hD => ?_) (fun _ => rfl)
        have h1 : av.eval (.tmp 1) = (.string z) := hO.2.2 1 rfl
        have f1 := (ev_form av 1).symm.trans h1
        have d106 : av.eval (.tmp 106) = (.bool true) := hD.1 rfl _ rfl
        have f106 := (ev_form av 106).symm.trans d106
        refine ⟨(wanted_of (d := 106) (b := true) (want := true) rfl rfl rfl d106), ?_⟩
        simp [go_sem, f1, f106]
      case s33 =>
        refine step_wp (fun av wv hE hS hO hD => ?_)
        have d107 : av.eval (.tmp 107) = (.string z) := hD.1 rfl _ rfl
        have f107 := (ev_form av 107).symm.trans d107
        have d106 : av.eval (.tmp 106) = (.bool true) := hD.2.1 rfl _ rfl
        have f106 := (ev_form av 106).symm.trans d106
        refine ⟨(wanted_of (d := 106) (b := true) (want := true) rfl rfl rfl d106), ?_⟩
        refine wp_of_call (v := .agg #[.int .u64 5, .string z, .string z, .string z]) (by simp [go_sem, f107]) (HA5.out wv) (fun w2 hb => ⟨_, rfl, es_of_ext hb, rfl⟩)
      case s34 =>
        refine step_val (v := (.agg #[.int .u64 6, .string z, .string z, .string y])) (fun av wv hE hS hO hD => ?_) (fun _ => rfl)
        have h15 : av.eval (.tmp 15) = (.pointer (some ⟨xb, 0, none⟩)) := hO.2.2 15 rfl
        have f15 := (ev_form av 15).symm.trans h15
        have d106 : av.eval (.tmp 106) = (.bool true) := hD.1 rfl _ rfl
        have f106 := (ev_form av 106).symm.trans d106
        have c0 := extB_cell hE (by simp) c0
        have c1 := extB_cell hE (by simp) c1
        have c2 := extB_cell hE (by simp) c2
        have c3 := extB_cell hE (by simp) c3
        have d0 := extB_cell hE (by simp) d0
        have d1 := extB_cell hE (by simp) d1
        have d2 := extB_cell hE (by simp) d2
        have d3 := extB_cell hE (by simp) d3
        refine ⟨(wanted_of (d := 106) (b := true) (want := true) rfl rfl rfl d106), ?_⟩
        simp [go_sem, f15, f106, c0, c1, c2, c3, d0, d1, d2, d3]
      case s35 =>
        refine step_wp (fun av wv hE hS hO hD => ?_)
        have d108 : av.eval (.tmp 108) = (.agg #[.int .u64 5, .string z, .string z, .string z]) := hD.1 rfl _ rfl
        have f108 := (ev_form av 108).symm.trans d108
        have d109 : av.eval (.tmp 109) = (.agg #[.int .u64 6, .string z, .string z, .string y]) := hD.2.1 rfl _ rfl
        have f109 := (ev_form av 109).symm.trans d109
        have d106 : av.eval (.tmp 106) = (.bool true) := hD.2.2.1 rfl _ rfl
        have f106 := (ev_form av 106).symm.trans d106
        refine ⟨(wanted_of (d := 106) (b := true) (want := true) rfl rfl rfl d106), ?_⟩
        exact wp_of_run (v := .slice (some ⟨wv.heap.size, 0, none⟩) 2 2) (w' := wv.alloc (.cells #[.int .u64 5, .string z, .string z, .string z, .int .u64 6, .string z, .string z, .string y] 33)) (by simp [go_sem, f108, f109]) ⟨_, rfl, es_of_ext (balloc (Ext_refl _) _), wv.heap.size, rfl, heap_alloc_new _ _⟩
      case s36 =>
        refine step_wp (fun av wv hE hS hO hD => ?_)
        have d110 : (fun u w' => ∃ b, u = .slice (some ⟨b, 0, none⟩) 2 2 ∧ w'.heap[b]? = some (.cells #[.int .u64 5, .string z, .string z, .string z, .int .u64 6, .string z, .string z, .string y] 33 (0, 0))) (av.eval (.tmp 110)) wv := hD.1 rfl _ rfl
        have d106 : av.eval (.tmp 106) = (.bool true) := hD.2.2.1 rfl _ rfl
        have f106 := (ev_form av 106).symm.trans d106
        refine ⟨(wanted_of (d := 106) (b := true) (want := true) rfl rfl rfl d106), ?_⟩
        obtain ⟨bq, hq, hcq⟩ := d110
        have fq := (ev_form av 110).symm.trans hq
        refine wp_of_call (v := .bool true) (by simp [go_sem, fq]; rfl) (HF1.out wv bq (of_drew hE) hcq) (fun w2 hb => ⟨_, rfl, es_of_ext hb, rfl⟩)
      case s37 =>
        refine step_val (v := (.bool true)) (fun av wv hE hS hO hD => ?_) (fun _ => rfl)
        have d106 : av.eval (.tmp 106) = (.bool true) := hD.1 rfl _ rfl
        have f106 := (ev_form av 106).symm.trans d106
        have d111 : av.eval (.tmp 111) = (.bool true) := hD.2.1 rfl _ rfl
        have f111 := (ev_form av 111).symm.trans d111
        refine ⟨rfl, ?_⟩
        simp [go_sem, f106, f111]
      case s38 =>
        refine step_val (v := (.bool true)) (fun av wv hE hS hO hD => ?_) (fun _ => rfl)
        have d112 : av.eval (.tmp 112) = (.bool true) := hD.1 rfl _ rfl
        have f112 := (ev_form av 112).symm.trans d112
        refine ⟨rfl, ?_⟩
        simp [go_sem, f112]
      case s39 =>
        refine step_val (v := (.agg #[.int .u64 18446744073709551615, .string z, .string z, .string z])) (fun av wv hE hS hO hD => ?_) (fun _ => rfl)
        have h16 : av.eval (.tmp 16) = (.pointer (some ⟨yb, 0, none⟩)) := hO.2.2 16 rfl
        have f16 := (ev_form av 16).symm.trans h16
        have d113 : av.eval (.tmp 113) = (.bool true) := hD.1 rfl _ rfl
        have f113 := (ev_form av 113).symm.trans d113
        have c0 := extB_cell hE (by simp) c0
        have c1 := extB_cell hE (by simp) c1
        have c2 := extB_cell hE (by simp) c2
        have c3 := extB_cell hE (by simp) c3
        have d0 := extB_cell hE (by simp) d0
        have d1 := extB_cell hE (by simp) d1
        have d2 := extB_cell hE (by simp) d2
        have d3 := extB_cell hE (by simp) d3
        refine ⟨(wanted_of (d := 113) (b := true) (want := true) rfl rfl rfl d113), ?_⟩
        simp [go_sem, f16, f113, c0, c1, c2, c3, d0, d1, d2, d3]
      case s40 =>
        refine step_val (v := (.string z)) (fun av wv hE hS hO hD => ?_) (fun _ => rfl)
        have h1 : av.eval (.tmp 1) = (.string z) := hO.2.2 1 rfl
        have f1 := (ev_form av 1).symm.trans h1
        have d113 : av.eval (.tmp 113) = (.bool true) := hD.1 rfl _ rfl
        have f113 := (ev_form av 113).symm.trans d113
        refine ⟨(wanted_of (d := 113) (b := true) (want := true) rfl rfl rfl d113), ?_⟩
        simp [go_sem, f1, f113]
      case s41 =>
        refine step_wp (fun av wv hE hS hO hD => ?_)
        have d115 : av.eval (.tmp 115) = (.string z) := hD.1 rfl _ rfl
        have f115 := (ev_form av 115).symm.trans d115
        have d113 : av.eval (.tmp 113) = (.bool true) := hD.2.1 rfl _ rfl
        have f113 := (ev_form av 113).symm.trans d113
        refine ⟨(wanted_of (d := 113) (b := true) (want := true) rfl rfl rfl d113), ?_⟩
        refine wp_of_call (v := .agg #[.int .u64 0, .string z, .string z, .string z]) (by simp [go_sem, f115]) (HA0.out wv) (fun w2 hb => ⟨_, rfl, es_of_ext hb, rfl⟩)
      case s42 =>
        refine step_wp (fun av wv hE hS hO hD => ?_)
        have d114 : av.eval (.tmp 114) = (.agg #[.int .u64 18446744073709551615, .string z, .string z, .string z]) := hD.1 rfl _ rfl
        have f114 := (ev_form av 114).symm.trans d114
        have d116 : av.eval (.tmp 116) = (.agg #[.int .u64 0, .string z, .string z, .string z]) := hD.2.1 rfl _ rfl
        have f116 := (ev_form av 116).symm.trans d116
        have d113 : av.eval (.tmp 113) = (.bool true) := hD.2.2.1 rfl _ rfl
        have f113 := (ev_form av 113).symm.trans d113
        refine ⟨(wanted_of (d := 113) (b := true) (want := true) rfl rfl rfl d113), ?_⟩
        exact wp_of_run (v := .slice (some ⟨wv.heap.size, 0, none⟩) 2 2) (w' := wv.alloc (.cells #[.int .u64 18446744073709551615, .string z, .string z, .string z, .int .u64 0, .string z, .string z, .string z] 33)) (by simp [go_sem, f114, f116]) ⟨_, rfl, es_of_ext (balloc (Ext_refl _) _), wv.heap.size, rfl, heap_alloc_new _ _⟩
      case s43 =>
        refine step_wp (fun av wv hE hS hO hD => ?_)
        have d117 : (fun u w' => ∃ b, u = .slice (some ⟨b, 0, none⟩) 2 2 ∧ w'.heap[b]? = some (.cells #[.int .u64 18446744073709551615, .string z, .string z, .string z, .int .u64 0, .string z, .string z, .string z] 33 (0, 0))) (av.eval (.tmp 117)) wv := hD.1 rfl _ rfl
        have d113 : av.eval (.tmp 113) = (.bool true) := hD.2.2.1 rfl _ rfl
        have f113 := (ev_form av 113).symm.trans d113
        refine ⟨(wanted_of (d := 113) (b := true) (want := true) rfl rfl rfl d113), ?_⟩
        obtain ⟨bq, hq, hcq⟩ := d117
        have fq := (ev_form av 117).symm.trans hq
        refine wp_of_call (v := .bool true) (by simp [go_sem, fq]; rfl) (HF2.out wv bq (of_drew hE) hcq) (fun w2 hb => ⟨_, rfl, es_of_ext hb, rfl⟩)
      case s44 =>
        refine step_val (v := (.bool true)) (fun av wv hE hS hO hD => ?_) (fun _ => rfl)
        have d113 : av.eval (.tmp 113) = (.bool true) := hD.1 rfl _ rfl
        have f113 := (ev_form av 113).symm.trans d113
        have d118 : av.eval (.tmp 118) = (.bool true) := hD.2.1 rfl _ rfl
        have f118 := (ev_form av 118).symm.trans d118
        refine ⟨rfl, ?_⟩
        simp [go_sem, f113, f118]
      case s45 =>
        refine step_val (v := (.bool true)) (fun av wv hE hS hO hD => ?_) (fun _ => rfl)
        have d119 : av.eval (.tmp 119) = (.bool true) := hD.1 rfl _ rfl
        have f119 := (ev_form av 119).symm.trans d119
        refine ⟨rfl, ?_⟩
        simp [go_sem, f119]
      case s46 =>
        refine step_val (v := (.string z)) (fun av wv hE hS hO hD => ?_) (fun _ => rfl)
        have h1 : av.eval (.tmp 1) = (.string z) := hO.2.2 1 rfl
        have f1 := (ev_form av 1).symm.trans h1
        have d120 : av.eval (.tmp 120) = (.bool true) := hD.1 rfl _ rfl
        have f120 := (ev_form av 120).symm.trans d120
        refine ⟨(wanted_of (d := 120) (b := true) (want := true) rfl rfl rfl d120), ?_⟩
        simp [go_sem, f1, f120]
      case s47 =>
        refine step_wp (fun av wv hE hS hO hD => ?_)
        have d121 : av.eval (.tmp 121) = (.string z) := hD.1 rfl _ rfl
        have f121 := (ev_form av 121).symm.trans d121
        have d120 : av.eval (.tmp 120) = (.bool true) := hD.2.1 rfl _ rfl
        have f120 := (ev_form av 120).symm.trans d120
        refine ⟨(wanted_of (d := 120) (b := true) (want := true) rfl rfl rfl d120), ?_⟩
        refine wp_of_call (v := .agg #[.int .u64 6, .string z, .string z, .string z]) (by simp [go_sem, f121]) (HA6.out wv) (fun w2 hb => ⟨_, rfl, es_of_ext hb, rfl⟩)
      case s48 =>
        refine step_val (v := (.string z)) (fun av wv hE hS hO hD => ?_) (fun _ => rfl)
        have h1 : av.eval (.tmp 1) = (.string z) := hO.2.2 1 rfl
        have f1 := (ev_form av 1).symm.trans h1
        have d120 : av.eval (.tmp 120) = (.bool true) := hD.1 rfl _ rfl
        have f120 := (ev_form av 120).symm.trans d120
        refine ⟨(wanted_of (d := 120) (b := true) (want := true) rfl rfl rfl d120), ?_⟩
        simp [go_sem, f1, f120]
      case s49 =>
        refine step_wp (fun av wv hE hS hO hD => ?_)
        have d123 : av.eval (.tmp 123) = (.string z) := hD.1 rfl _ rfl
        have f123 := (ev_form av 123).symm.trans d123
        have d120 : av.eval (.tmp 120) = (.bool true) := hD.2.2.1 rfl _ rfl
        have f120 := (ev_form av 120).symm.trans d120
        refine ⟨(wanted_of (d := 120) (b := true) (want := true) rfl rfl rfl d120), ?_⟩
        refine wp_of_call (v := .agg #[.int .u64 5, .string z, .string z, .string z]) (by simp [go_sem, f123]) (HA5.out wv) (fun w2 hb => ⟨_, rfl, es_of_ext hb, rfl⟩)
      case s50 =>
        refine step_wp (fun av wv hE hS hO hD => ?_)
        have d122 : av.eval (.tmp 122) = (.agg #[.int .u64 6, .string z, .string z, .string z]) := hD.1 rfl _ rfl
        have f122 := (ev_form av 122).symm.trans d122
        have d124 : av.eval (.tmp 124) = (.agg #[.int .u64 5, .string z, .string z, .string z]) := hD.2.1 rfl _ rfl
        have f124 := (ev_form av 124).symm.trans d124
        have d120 : av.eval (.tmp 120) = (.bool true) := hD.2.2.1 rfl _ rfl
        have f120 := (ev_form av 120).symm.trans d120
        refine ⟨(wanted_of (d := 120) (b := true) (want := true) rfl rfl rfl d120), ?_⟩
        exact wp_of_run (v := .slice (some ⟨wv.heap.size, 0, none⟩) 2 2) (w' := wv.alloc (.cells #[.int .u64 6, .string z, .string z, .string z, .int .u64 5, .string z, .string z, .string z] 33)) (by simp [go_sem, f122, f124]) ⟨_, rfl, es_of_ext (balloc (Ext_refl _) _), wv.heap.size, rfl, heap_alloc_new _ _⟩
      case s51 =>
        refine step_wp (fun av wv hE hS hO hD => ?_)
        have d125 : (fun u w' => ∃ b, u = .slice (some ⟨b, 0, none⟩) 2 2 ∧ w'.heap[b]? = some (.cells #[.int .u64 6, .string z, .string z, .string z, .int .u64 5, .string z, .string z, .string z] 33 (0, 0))) (av.eval (.tmp 125)) wv := hD.1 rfl _ rfl
        have d120 : av.eval (.tmp 120) = (.bool true) := hD.2.2.1 rfl _ rfl
        have f120 := (ev_form av 120).symm.trans d120
        refine ⟨(wanted_of (d := 120) (b := true) (want := true) rfl rfl rfl d120), ?_⟩
        obtain ⟨bq, hq, hcq⟩ := d125
        have fq := (ev_form av 125).symm.trans hq
        refine wp_of_call (v := .bool true) (by simp [go_sem, fq]; rfl) (HF3.out wv bq (of_drew hE) hcq) (fun w2 hb => ⟨_, rfl, es_of_ext hb, rfl⟩)
      case s52 =>
        refine step_val (v := (.bool true)) (fun av wv hE hS hO hD => ?_) (fun _ => rfl)
        have d120 : av.eval (.tmp 120) = (.bool true) := hD.1 rfl _ rfl
        have f120 := (ev_form av 120).symm.trans d120
        have d126 : av.eval (.tmp 126) = (.bool true) := hD.2.1 rfl _ rfl
        have f126 := (ev_form av 126).symm.trans d126
        refine ⟨rfl, ?_⟩
        simp [go_sem, f120, f126]
      case s53 =>
        refine step_val (v := (.bool true)) (fun av wv hE hS hO hD => ?_) (fun _ => rfl)
        have d127 : av.eval (.tmp 127) = (.bool true) := hD.1 rfl _ rfl
        have f127 := (ev_form av 127).symm.trans d127
        refine ⟨rfl, ?_⟩
        simp [go_sem, f127]
      case s54 =>
        refine step_val (v := (.agg #[.int .u64 18446744073709551615, .string z, .string z, .string z])) (fun av wv hE hS hO hD => ?_) (fun _ => rfl)
        have h16 : av.eval (.tmp 16) = (.pointer (some ⟨yb, 0, none⟩)) := hO.2.2 16 rfl
        have f16 := (ev_form av 16).symm.trans h16
        have d128 : av.eval (.tmp 128) = (.bool true) := hD.1 rfl _ rfl
        have f128 := (ev_form av 128).symm.trans d128
        have c0 := extB_cell hE (by simp) c0
        have c1 := extB_cell hE (by simp) c1
        have c2 := extB_cell hE (by simp) c2
        have c3 := extB_cell hE (by simp) c3
        have d0 := extB_cell hE (by simp) d0
        have d1 := extB_cell hE (by simp) d1
        have d2 := extB_cell hE (by simp) d2
        have d3 := extB_cell hE (by simp) d3
        refine ⟨(wanted_of (d := 128) (b := true) (want := true) rfl rfl rfl d128), ?_⟩
        simp [go_sem, f16, f128, c0, c1, c2, c3, d0, d1, d2, d3]
      case s55 =>
        refine step_wp (fun av wv hE hS hO hD => ?_)
        have d129 : av.eval (.tmp 129) = (.agg #[.int .u64 18446744073709551615, .string z, .string z, .string z]) := hD.1 rfl _ rfl
        have f129 := (ev_form av 129).symm.trans d129
        have d128 : av.eval (.tmp 128) = (.bool true) := hD.2.1 rfl _ rfl
        have f128 := (ev_form av 128).symm.trans d128
        refine ⟨(wanted_of (d := 128) (b := true) (want := true) rfl rfl rfl d128), ?_⟩
        exact wp_of_run (v := .slice (some ⟨wv.heap.size, 0, none⟩) 1 1) (w' := wv.alloc (.cells #[.int .u64 18446744073709551615, .string z, .string z, .string z] 33)) (by simp [go_sem, f129]) ⟨_, rfl, es_of_ext (balloc (Ext_refl _) _), wv.heap.size, rfl, heap_alloc_new _ _⟩
      case s56 =>
        refine step_wp (fun av wv hE hS hO hD => ?_)
        have d130 : (fun u w' => ∃ b, u = .slice (some ⟨b, 0, none⟩) 1 1 ∧ w'.heap[b]? = some (.cells #[.int .u64 18446744073709551615, .string z, .string z, .string z] 33 (0, 0))) (av.eval (.tmp 130)) wv := hD.1 rfl _ rfl
        have d128 : av.eval (.tmp 128) = (.bool true) := hD.2.1 rfl _ rfl
        have f128 := (ev_form av 128).symm.trans d128
        refine ⟨(wanted_of (d := 128) (b := true) (want := true) rfl rfl rfl d128), ?_⟩
        obtain ⟨bq, hq, hcq⟩ := d130
        have fq := (ev_form av 130).symm.trans hq
        refine wp_of_call (v := .bool true) (by simp [go_sem, fq]; rfl) (HL1.out wv bq (of_drew hE) hcq) (fun w2 hb => ⟨_, rfl, es_of_ext hb, rfl⟩)
      case s57 =>
        refine step_val (v := (.bool true)) (fun av wv hE hS hO hD => ?_) (fun _ => rfl)
        have d128 : av.eval (.tmp 128) = (.bool true) := hD.1 rfl _ rfl
        have f128 := (ev_form av 128).symm.trans d128
        have d131 : av.eval (.tmp 131) = (.bool true) := hD.2.1 rfl _ rfl
        have f131 := (ev_form av 131).symm.trans d131
        refine ⟨rfl, ?_⟩
        simp [go_sem, f128, f131]
      case s58 =>
        refine step_val (v := (.bool true)) (fun av wv hE hS hO hD => ?_) (fun _ => rfl)
        have d132 : av.eval (.tmp 132) = (.bool true) := hD.1 rfl _ rfl
        have f132 := (ev_form av 132).symm.trans d132
        refine ⟨rfl, ?_⟩
        simp [go_sem, f132]
      case s59 =>
        refine step_wp (fun av wv hE hS hO hD => ?_)
        have d133 : av.eval (.tmp 133) = (.bool true) := hD.1 rfl _ rfl
        have f133 := (ev_form av 133).symm.trans d133
        refine ⟨(wanted_of (d := 133) (b := true) (want := true) rfl rfl rfl d133), ?_⟩
        refine wp_of_call (v := .bool false) (by simp [go_sem]; rfl) (HL0.out wv (of_drew hE)) (fun w2 hb => ⟨_, rfl, es_of_ext hb, rfl⟩)
      case s60 =>
        refine step_val (v := (.bool true)) (fun av wv hE hS hO hD => ?_) (fun _ => rfl)
        have d134 : av.eval (.tmp 134) = (.bool false) := hD.1 rfl _ rfl
        have f134 := (ev_form av 134).symm.trans d134
        have d133 : av.eval (.tmp 133) = (.bool true) := hD.2.1 rfl _ rfl
        have f133 := (ev_form av 133).symm.trans d133
        refine ⟨(wanted_of (d := 133) (b := true) (want := true) rfl rfl rfl d133), ?_⟩
        simp [go_sem, f134, f133]
      case s61 =>
        refine step_val (v := (.bool true)) (fun av wv hE hS hO hD => ?_) (fun _ => rfl)
        have d133 : av.eval (.tmp 133) = (.bool true) := hD.1 rfl _ rfl
        have f133 := (ev_form av 133).symm.trans d133
        have d135 : av.eval (.tmp 135) = (.bool true) := hD.2.1 rfl _ rfl
        have f135 := (ev_form av 135).symm.trans d135
        refine ⟨rfl, ?_⟩
        simp [go_sem, f133, f135]
      case s62 =>
        refine step_val (v := (.bool true)) (fun av wv hE hS hO hD => ?_) (fun _ => rfl)
        have d136 : av.eval (.tmp 136) = (.bool true) := hD.1 rfl _ rfl
        have f136 := (ev_form av 136).symm.trans d136
        refine ⟨rfl, ?_⟩
        simp [go_sem, f136]
      intro a' w' hE hO hall
      have hA := act_of_outer (ds := [75, 76, 77, 78, 79, 80, 81, 82, 83, 84, 85, 86, 87, 88, 89, 90, 91, 92, 93, 94, 95, 96, 97, 98, 99, 100, 101, 102, 103, 104, 105, 106, 107, 108, 109, 110, 111, 112, 113, 114, 115, 116, 117, 118, 119, 120, 121, 122, 123, 124, 125, 126, 127, 128, 129, 130, 131, 132, 133, 134, 135, 136, 0]) rfl hO (by kernel_rfl)
      have e75 : (fun u _ => u = (.bool true)) (a'.eval (.tmp 75)) w' := hall.1 _ rfl
      have e76 : (fun u _ => u = (.bool true)) (a'.eval (.tmp 76)) w' := hall.2.1 _ rfl
      have e77 : (fun u _ => u = (.bool true)) (a'.eval (.tmp 77)) w' := hall.2.2.1 _ rfl
      have e78 : (fun u _ => u = (.bool true)) (a'.eval (.tmp 78)) w' := hall.2.2.2.1 _ rfl
      have e79 : (fun u _ => u = (.int .i64 0)) (a'.eval (.tmp 79)) w' := hall.2.2.2.2.1 _ rfl
      have e80 : (fun u _ => u = (.bool true)) (a'.eval (.tmp 80)) w' := hall.2.2.2.2.2.1 _ rfl
      have e81 : (fun u _ => u = (.bool true)) (a'.eval (.tmp 81)) w' := hall.2.2.2.2.2.2.1 _ rfl
      have e82 : (fun u _ => u = (.bool true)) (a'.eval (.tmp 82)) w' := hall.2.2.2.2.2.2.2.1 _ rfl
      have e83 : (fun u _ => u = (.int .i64 0)) (a'.eval (.tmp 83)) w' := hall.2.2.2.2.2.2.2.2.1 _ rfl
      have e84 : (fun u _ => u = (.bool true)) (a'.eval (.tmp 84)) w' := hall.2.2.2.2.2.2.2.2.2.1 _ rfl
      have e85 : (fun u _ => u = (.bool true)) (a'.eval (.tmp 85)) w' := hall.2.2.2.2.2.2.2.2.2.2.1 _ rfl
      have e86 : (fun u _ => u = (.bool true)) (a'.eval (.tmp 86)) w' := hall.2.2.2.2.2.2.2.2.2.2.2.1 _ rfl
      have e87 : (fun u _ => u = (.int .i64 2)) (a'.eval (.tmp 87)) w' := hall.2.2.2.2.2.2.2.2.2.2.2.2.1 _ rfl
      have e88 : (fun u _ => u = (.bool true)) (a'.eval (.tmp 88)) w' := hall.2.2.2.2.2.2.2.2.2.2.2.2.2.1 _ rfl
      have e89 : (fun u _ => u = (.bool true)) (a'.eval (.tmp 89)) w' := hall.2.2.2.2.2.2.2.2.2.2.2.2.2.2.1 _ rfl
      have e90 : (fun u _ => u = (.bool true)) (a'.eval (.tmp 90)) w' := hall.2.2.2.2.2.2.2.2.2.2.2.2.2.2.2.1 _ rfl
      have e91 : (fun u _ => u = (.int .i64 2)) (a'.eval (.tmp 91)) w' := hall.2.2.2.2.2.2.2.2.2.2.2.2.2.2.2.2.1 _ rfl
      have e92 : (fun u _ => u = (.bool true)) (a'.eval (.tmp 92)) w' := hall.2.2.2.2.2.2.2.2.2.2.2.2.2.2.2.2.2.1 _ rfl
      have e93 : (fun u _ => u = (.bool true)) (a'.eval (.tmp 93)) w' := hall.2.2.2.2.2.2.2.2.2.2.2.2.2.2.2.2.2.2.1 _ rfl
      have e94 : (fun u _ => u = (.bool true)) (a'.eval (.tmp 94)) w' := hall.2.2.2.2.2.2.2.2.2.2.2.2.2.2.2.2.2.2.2.1 _ rfl
      have e95 : (fun u _ => u = (.int .i64 0)) (a'.eval (.tmp 95)) w' := hall.2.2.2.2.2.2.2.2.2.2.2.2.2.2.2.2.2.2.2.2.1 _ rfl
      have e96 : (fun u _ => u = (.bool true)) (a'.eval (.tmp 96)) w' := hall.2.2.2.2.2.2.2.2.2.2.2.2.2.2.2.2.2.2.2.2.2.1 _ rfl
      have e97 : (fun u _ => u = (.bool true)) (a'.eval (.tmp 97)) w' := hall.2.2.2.2.2.2.2.2.2.2.2.2.2.2.2.2.2.2.2.2.2.2.1 _ rfl
      have e98 : (fun u _ => u = (.bool true)) (a'.eval (.tmp 98)) w' := hall.2.2.2.2.2.2.2.2.2.2.2.2.2.2.2.2.2.2.2.2.2.2.2.1 _ rfl
      have e99 : (fun u _ => u = (.int .i64 2)) (a'.eval (.tmp 99)) w' := hall.2.2.2.2.2.2.2.2.2.2.2.2.2.2.2.2.2.2.2.2.2.2.2.2.1 _ rfl
      have e100 : (fun u _ => u = (.bool true)) (a'.eval (.tmp 100)) w' := hall.2.2.2.2.2.2.2.2.2.2.2.2.2.2.2.2.2.2.2.2.2.2.2.2.2.1 _ rfl
      have e101 : (fun u _ => u = (.bool true)) (a'.eval (.tmp 101)) w' := hall.2.2.2.2.2.2.2.2.2.2.2.2.2.2.2.2.2.2.2.2.2.2.2.2.2.2.1 _ rfl
      have e102 : (fun u _ => u = (.bool true)) (a'.eval (.tmp 102)) w' := hall.2.2.2.2.2.2.2.2.2.2.2.2.2.2.2.2.2.2.2.2.2.2.2.2.2.2.2.1 _ rfl
      have e103 : (fun u _ => u = (.slice am 65 cm)) (a'.eval (.tmp 103)) w' := hall.2.2.2.2.2.2.2.2.2.2.2.2.2.2.2.2.2.2.2.2.2.2.2.2.2.2.2.2.1 _ rfl
      have e104 : (fun u _ => u = (.bool true)) (a'.eval (.tmp 104)) w' := hall.2.2.2.2.2.2.2.2.2.2.2.2.2.2.2.2.2.2.2.2.2.2.2.2.2.2.2.2.2.1 _ rfl
      have e105 : (fun u _ => u = (.bool true)) (a'.eval (.tmp 105)) w' := hall.2.2.2.2.2.2.2.2.2.2.2.2.2.2.2.2.2.2.2.2.2.2.2.2.2.2.2.2.2.2.1 _ rfl
      have e106 : (fun u _ => u = (.bool true)) (a'.eval (.tmp 106)) w' := hall.2.2.2.2.2.2.2.2.2.2.2.2.2.2.2.2.2.2.2.2.2.2.2.2.2.2.2.2.2.2.2.1 _ rfl
      have e107 : (fun u _ => u = (.string z)) (a'.eval (.tmp 107)) w' := hall.2.2.2.2.2.2.2.2.2.2.2.2.2.2.2.2.2.2.2.2.2.2.2.2.2.2.2.2.2.2.2.2.1 _ rfl
      have e108 : (fun u _ => u = (.agg #[.int .u64 5, .string z, .string z, .string z])) (a'.eval (.tmp 108)) w' := hall.2.2.2.2.2.2.2.2.2.2.2.2.2.2.2.2.2.2.2.2.2.2.2.2.2.2.2.2.2.2.2.2.2.1 _ rfl
      have e109 : (fun u _ => u = (.agg #[.int .u64 6, .string z, .string z, .string y])) (a'.eval (.tmp 109)) w' := hall.2.2.2.2.2.2.2.2.2.2.2.2.2.2.2.2.2.2.2.2.2.2.2.2.2.2.2.2.2.2.2.2.2.2.1 _ rfl
      have e110 : (fun u w' => ∃ b, u = .slice (some ⟨b, 0, none⟩) 2 2 ∧ w'.heap[b]? = some (.cells #[.int .u64 5, .string z, .string z, .string z, .int .u64 6, .string z, .string z, .string y] 33 (0, 0))) (a'.eval (.tmp 110)) w' := hall.2.2.2.2.2.2.2.2.2.2.2.2.2.2.2.2.2.2.2.2.2.2.2.2.2.2.2.2.2.2.2.2.2.2.2.1 _ rfl
      have e111 : (fun u _ => u = (.bool true)) (a'.eval (.tmp 111)) w' := hall.2.2.2.2.2.2.2.2.2.2.2.2.2.2.2.2.2.2.2.2.2.2.2.2.2.2.2.2.2.2.2.2.2.2.2.2.1 _ rfl
      have e112 : (fun u _ => u = (.bool true)) (a'.eval (.tmp 112)) w' := hall.2.2.2.2.2.2.2.2.2.2.2.2.2.2.2.2.2.2.2.2.2.2.2.2.2.2.2.2.2.2.2.2.2.2.2.2.2.1 _ rfl
      have e113 : (fun u _ => u = (.bool true)) (a'.eval (.tmp 113)) w' := hall.2.2.2.2.2.2.2.2.2.2.2.2.2.2.2.2.2.2.2.2.2.2.2.2.2.2.2.2.2.2.2.2.2.2.2.2.2.2.1 _ rfl
      have e114 : (fun u _ => u = (.agg #[.int .u64 18446744073709551615, .string z, .string z, .string z])) (a'.eval (.tmp 114)) w' := hall.2.2.2.2.2.2.2.2.2.2.2.2.2.2.2.2.2.2.2.2.2.2.2.2.2.2.2.2.2.2.2.2.2.2.2.2.2.2.2.1 _ rfl
      have e115 : (fun u _ => u = (.string z)) (a'.eval (.tmp 115)) w' := hall.2.2.2.2.2.2.2.2.2.2.2.2.2.2.2.2.2.2.2.2.2.2.2.2.2.2.2.2.2.2.2.2.2.2.2.2.2.2.2.2.1 _ rfl
      have e116 : (fun u _ => u = (.agg #[.int .u64 0, .string z, .string z, .string z])) (a'.eval (.tmp 116)) w' := hall.2.2.2.2.2.2.2.2.2.2.2.2.2.2.2.2.2.2.2.2.2.2.2.2.2.2.2.2.2.2.2.2.2.2.2.2.2.2.2.2.2.1 _ rfl
      have e117 : (fun u w' => ∃ b, u = .slice (some ⟨b, 0, none⟩) 2 2 ∧ w'.heap[b]? = some (.cells #[.int .u64 18446744073709551615, .string z, .string z, .string z, .int .u64 0, .string z, .string z, .string z] 33 (0, 0))) (a'.eval (.tmp 117)) w' := hall.2.2.2.2.2.2.2.2.2.2.2.2.2.2.2.2.2.2.2.2.2.2.2.2.2.2.2.2.2.2.2.2.2.2.2.2.2.2.2.2.2.2.1 _ rfl
      have e118 : (fun u _ => u = (.bool true)) (a'.eval (.tmp 118)) w' := hall.2.2.2.2.2.2.2.2.2.2.2.2.2.2.2.2.2.2.2.2.2.2.2.2.2.2.2.2.2.2.2.2.2.2.2.2.2.2.2.2.2.2.2.1 _ rfl
      have e119 : (fun u _ => u = (.bool true)) (a'.eval (.tmp 119)) w' := hall.2.2.2.2.2.2.2.2.2.2.2.2.2.2.2.2.2.2.2.2.2.2.2.2.2.2.2.2.2.2.2.2.2.2.2.2.2.2.2.2.2.2.2.2.1 _ rfl
      have e120 : (fun u _ => u = (.bool true)) (a'.eval (.tmp 120)) w' := hall.2.2.2.2.2.2.2.2.2.2.2.2.2.2.2.2.2.2.2.2.2.2.2.2.2.2.2.2.2.2.2.2.2.2.2.2.2.2.2.2.2.2.2.2.2.1 _ rfl
      have e121 : (fun u _ => u = (.string z)) (a'.eval (.tmp 121)) w' := hall.2.2.2.2.2.2.2.2.2.2.2.2.2.2.2.2.2.2.2.2.2.2.2.2.2.2.2.2.2.2.2.2.2.2.2.2.2.2.2.2.2.2.2.2.2.2.1 _ rfl
      have e122 : (fun u _ => u = (.agg #[.int .u64 6, .string z, .string z, .string z])) (a'.eval (.tmp 122)) w' := hall.2.2.2.2.2.2.2.2.2.2.2.2.2.2.2.2.2.2.2.2.2.2.2.2.2.2.2.2.2.2.2.2.2.2.2.2.2.2.2.2.2.2.2.2.2.2.2.1 _ rfl
      have e123 : (fun u _ => u = (.string z)) (a'.eval (.tmp 123)) w' := hall.2.2.2.2.2.2.2.2.2.2.2.2.2.2.2.2.2.2.2.2.2.2.2.2.2.2.2.2.2.2.2.2.2.2.2.2.2.2.2.2.2.2.2.2.2.2.2.2.1 _ rfl
      have e124 : (fun u _ => u = (.agg #[.int .u64 5, .string z, .string z, .string z])) (a'.eval (.tmp 124)) w' := hall.2.2.2.2.2.2.2.2.2.2.2.2.2.2.2.2.2.2.2.2.2.2.2.2.2.2.2.2.2.2.2.2.2.2.2.2.2.2.2.2.2.2.2.2.2.2.2.2.2.1 _ rfl
      have e125 : (fun u w' => ∃ b, u = .slice (some ⟨b, 0, none⟩) 2 2 ∧ w'.heap[b]? = some (.cells #[.int .u64 6, .string z, .string z, .string z, .int .u64 5, .string z, .string z, .string z] 33 (0, 0))) (a'.eval (.tmp 125)) w' := hall.2.2.2.2.2.2.2.2.2.2.2.2.2.2.2.2.2.2.2.2.2.2.2.2.2.2.2.2.2.2.2.2.2.2.2.2.2.2.2.2.2.2.2.2.2.2.2.2.2.2.1 _ rfl
      have e126 : (fun u _ => u = (.bool true)) (a'.eval (.tmp 126)) w' := hall.2.2.2.2.2.2.2.2.2.2.2.2.2.2.2.2.2.2.2.2.2.2.2.2.2.2.2.2.2.2.2.2.2.2.2.2.2.2.2.2.2.2.2.2.2.2.2.2.2.2.2.1 _ rfl
      have e127 : (fun u _ => u = (.bool true)) (a'.eval (.tmp 127)) w' := hall.2.2.2.2.2.2.2.2.2.2.2.2.2.2.2.2.2.2.2.2.2.2.2.2.2.2.2.2.2.2.2.2.2.2.2.2.2.2.2.2.2.2.2.2.2.2.2.2.2.2.2.2.1 _ rfl
      have e128 : (fun u _ => u = (.bool true)) (a'.eval (.tmp 128)) w' := hall.2.2.2.2.2.2.2.2.2.2.2.2.2.2.2.2.2.2.2.2.2.2.2.2.2.2.2.2.2.2.2.2.2.2.2.2.2.2.2.2.2.2.2.2.2.2.2.2.2.2.2.2.2.1 _ rfl
      have e129 : (fun u _ => u = (.agg #[.int .u64 18446744073709551615, .string z, .string z, .string z])) (a'.eval (.tmp 129)) w' := hall.2.2.2.2.2.2.2.2.2.2.2.2.2.2.2.2.2.2.2.2.2.2.2.2.2.2.2.2.2.2.2.2.2.2.2.2.2.2.2.2.2.2.2.2.2.2.2.2.2.2.2.2.2.2.1 _ rfl
      have e130 : (fun u w' => ∃ b, u = .slice (some ⟨b, 0, none⟩) 1 1 ∧ w'.heap[b]? = some (.cells #[.int .u64 18446744073709551615, .string z, .string z, .string z] 33 (0, 0))) (a'.eval (.tmp 130)) w' := hall.2.2.2.2.2.2.2.2.2.2.2.2.2.2.2.2.2.2.2.2.2.2.2.2.2.2.2.2.2.2.2.2.2.2.2.2.2.2.2.2.2.2.2.2.2.2.2.2.2.2.2.2.2.2.2.1 _ rfl
      have e131 : (fun u _ => u = (.bool true)) (a'.eval (.tmp 131)) w' := hall.2.2.2.2.2.2.2.2.2.2.2.2.2.2.2.2.2.2.2.2.2.2.2.2.2.2.2.2.2.2.2.2.2.2.2.2.2.2.2.2.2.2.2.2.2.2.2.2.2.2.2.2.2.2.2.2.1 _ rfl
      have e132 : (fun u _ => u = (.bool true)) (a'.eval (.tmp 132)) w' := hall.2.2.2.2.2.2.2.2.2.2.2.2.2.2.2.2.2.2.2.2.2.2.2.2.2.2.2.2.2.2.2.2.2.2.2.2.2.2.2.2.2.2.2.2.2.2.2.2.2.2.2.2.2.2.2.2.2.1 _ rfl
      have e133 : (fun u _ => u = (.bool true)) (a'.eval (.tmp 133)) w' := hall.2.2.2.2.2.2.2.2.2.2.2.2.2.2.2.2.2.2.2.2.2.2.2.2.2.2.2.2.2.2.2.2.2.2.2.2.2.2.2.2.2.2.2.2.2.2.2.2.2.2.2.2.2.2.2.2.2.2.1 _ rfl
      have e134 : (fun u _ => u = (.bool false)) (a'.eval (.tmp 134)) w' := hall.2.2.2.2.2.2.2.2.2.2.2.2.2.2.2.2.2.2.2.2.2.2.2.2.2.2.2.2.2.2.2.2.2.2.2.2.2.2.2.2.2.2.2.2.2.2.2.2.2.2.2.2.2.2.2.2.2.2.2.1 _ rfl
      have e135 : (fun u _ => u = (.bool true)) (a'.eval (.tmp 135)) w' := hall.2.2.2.2.2.2.2.2.2.2.2.2.2.2.2.2.2.2.2.2.2.2.2.2.2.2.2.2.2.2.2.2.2.2.2.2.2.2.2.2.2.2.2.2.2.2.2.2.2.2.2.2.2.2.2.2.2.2.2.2.1 _ rfl
      have e136 : (fun u _ => u = (.bool true)) (a'.eval (.tmp 136)) w' := hall.2.2.2.2.2.2.2.2.2.2.2.2.2.2.2.2.2.2.2.2.2.2.2.2.2.2.2.2.2.2.2.2.2.2.2.2.2.2.2.2.2.2.2.2.2.2.2.2.2.2.2.2.2.2.2.2.2.2.2.2.2.1 _ rfl
      have e0 : (fun u _ => u = (.bool true)) (a'.eval (.tmp 0)) w' := hall.2.2.2.2.2.2.2.2.2.2.2.2.2.2.2.2.2.2.2.2.2.2.2.2.2.2.2.2.2.2.2.2.2.2.2.2.2.2.2.2.2.2.2.2.2.2.2.2.2.2.2.2.2.2.2.2.2.2.2.2.2.2.1 _ rfl
      obtain ⟨v110, hv110⟩ : ∃ v, a'.eval (.tmp 110) = v := ⟨_, rfl⟩
      rw [hv110] at e110
      obtain ⟨v117, hv117⟩ : ∃ v, a'.eval (.tmp 117) = v := ⟨_, rfl⟩
      rw [hv117] at e117
      obtain ⟨v125, hv125⟩ : ∃ v, a'.eval (.tmp 125) = v := ⟨_, rfl⟩
      rw [hv125] at e125
      obtain ⟨v130, hv130⟩ : ∃ v, a'.eval (.tmp 130) = v := ⟨_, rfl⟩
      rw [hv130] at e130
      simp only [List.foldl_cons, List.foldl_nil, Act.put, List.setIfInBounds_toArray, List.set_cons_succ, List.set_cons_zero, e75, e76, e77, e78, e79, e80, e81, e82, e83, e84, e85, e86, e87, e88, e89, e90, e91, e92, e93, e94, e95, e96, e97, e98, e99, e100, e101, e102, e103, e104, e105, e106, e107, e108, e109, hv110, e111, e112, e113, e114, e115, e116, hv117, e118, e119, e120, e121, e122, e123, e124, hv125, e126, e127, e128, e129, hv130, e131, e132, e133, e134, e135, e136, e0] at hA
      clear hO hall e75 e76 e77 e78 e79 e80 e81 e82 e83 e84 e85 e86 e87 e88 e89 e90 e91 e92 e93 e94 e95 e96 e97 e98 e99 e100 e101 e102 e103 e104 e105 e106 e107 e108 e109 hv110 e111 e112 e113 e114 e115 e116 hv117 e118 e119 e120 e121 e122 e123 e124 hv125 e126 e127 e128 e129 hv130 e131 e132 e133 e134 e135 e136 e0
      subst hA
      have HBE : Hid (Below w.heap.size w w') := Lib.hid (bnext (bnext HWB.out HX9.out) (of_drew hE))
      clear hE
      go_wp2
      go_ret
      exact ⟨rfl, HBE.out⟩
end Go.Proofs.YtpobhbdomldecaaGreatDoor
namespace Go.Proofs.YtpobhbdomldecaaGreatDoor
set_option linter.unusedSimpArgs false
set_option linter.unusedVariables false
open Go.RowKit Go.ChangeShapes Go.WideShapes Go.ChangeAt
theorem own : ownKnob Tryz.prog.godebug = none := by kernel_rfl
end Go.Proofs.YtpobhbdomldecaaGreatDoor
namespace Go.Proofs.YtpobhbdomldecaaGreatDoor
set_option linter.unusedSimpArgs false
set_option linter.unusedVariables false
open Go.RowKit Go.ChangeShapes Go.WideShapes Go.ChangeAt
def rowD5 (r : PRow) : DataW Unit := .agg [.lit (.int .u64 r.below), .lit (.int .u8 r.first), .lit (.int .i64 r.size)]
set_option maxRecDepth 100000 in
theorem laid_prow {w : World} {fuel : Nat} {cs' : List Value} {r : PRow} {q : List MemPlace} (hl : cs'.length = 3) (h : DataW.trod (fun _ => ()) Tryz.prog w 0 (fun _ => true) false fuel 336 cs' = some (rowD5 r, q)) : cs' = r.cells := by
  match cs', hl with
  | [v0, v1, v2], _ =>
    obtain ⟨xs, m, _, e, _, hxl, hx⟩ := DataW.trod_struct Tryz.underlying336 h
    have cu : Tryz.prog.cellsOf 5 = 1 := by kernel_rfl
    have ci : Tryz.prog.cellsOf 3 = 1 := by kernel_rfl
    have cq : Tryz.prog.cellsOf 23 = 1 := by kernel_rfl
    have hxl' : xs.length = 3 := hxl
    have h0 : DataW.trod (fun _ => ()) Tryz.prog w 0 (fun _ => true) false m 23 (([v0, v1, v2].drop 0).take (Tryz.prog.cellsOf 23)) = xs[0]? := hx 0 _ rfl
    have h1 : DataW.trod (fun _ => ()) Tryz.prog w 0 (fun _ => true) false m 5 (([v0, v1, v2].drop 1).take (Tryz.prog.cellsOf 5)) = xs[1]? := hx 1 _ rfl
    have h2 : DataW.trod (fun _ => ()) Tryz.prog w 0 (fun _ => true) false m 3 (([v0, v1, v2].drop 2).take (Tryz.prog.cellsOf 3)) = xs[2]? := hx 2 _ rfl
    rw [cq] at h0
    rw [cu] at h1
    rw [ci] at h2
    match xs, hxl' with
    | [x0, x1, x2], _ =>
      obtain ⟨n0, e0, y0, _⟩ := DataW.trod_int Tryz.underlying23 (show DataW.trod (fun _ => ()) Tryz.prog w 0 (fun _ => true) false m 23 [v0] = some x0 from h0)
      obtain ⟨n1, e1, y1, _⟩ := DataW.trod_int Tryz.underlying5 (show DataW.trod (fun _ => ()) Tryz.prog w 0 (fun _ => true) false m 5 [v1] = some x1 from h1)
      obtain ⟨n2, e2, y2, _⟩ := DataW.trod_int Tryz.underlying3 (show DataW.trod (fun _ => ()) Tryz.prog w 0 (fun _ => true) false m 3 [v2] = some x2 from h2)
      subst y0 y1 y2
      simp [rowD5] at e e0 e1 e2
      obtain ⟨⟨a0, a1, a2⟩, _⟩ := e
      subst e0 e1 e2
      unfold PRow.cells
      rw [a0, a1, a2]
set_option maxRecDepth 100000 in
theorem laid_prows {w : World} {fuel : Nat} {cs : List Value} {l : List PRow} {p : List MemPlace} (h : DataW.trod (fun _ => ()) Tryz.prog w 0 (fun _ => true) false fuel 338 cs = some (.slice (l.map rowD5) [], p)) (hl : 0 < len l) :
    ∃ tb tq rc, cs = [.slice (some ⟨tb, tq, none⟩) (len l) rc] ∧ PRows w (some ⟨tb, tq, none⟩) l := by
  have hC : Tryz.prog.cellsOf 336 = 3 := by kernel_rfl
  rcases Go.Deep.open_slice Tryz.underlying338 h with ⟨_, hx⟩ | ⟨a, n, c, m, q, D, Pl, hcs, _, hln, hm, hmm, hx, hi⟩
  · simp at hx
  · simp only [Prod.mk.injEq, DataW.slice.injEq] at hx
    obtain ⟨⟨hD, _⟩, _⟩ := hx
    have hn : len l = n := by have := congrArg List.length hD; simpa [len] using this
    have hnm : n ≤ m := by rw [hmm]; simp; exact hln
    have each : ∀ i, i < len l → ∃ b off, a = ⟨b, off, none⟩ ∧ PRowAt w b (off + i * 3) (prth l i) := fun i hil => by
      obtain ⟨cs', hc, htr⟩ := hi i (by omega)
      rw [hC] at hc
      obtain ⟨_, hcl, hat⟩ := World.cells?_some hc
      have hDi : D i = rowD5 (prth l i) := by
        have h1 : (l.map rowD5)[i]? = ((List.range n).map D)[i]? := by rw [hD]
        have hil' : i < l.length := hil
        rw [List.getElem?_map, List.getElem?_map, List.getElem?_eq_getElem hil', List.getElem?_range (by omega)] at h1
        rw [prth_eq l i hil]
        exact (Option.some.inj h1).symm
      rw [hDi] at htr
      have hcs' := laid_prow hcl htr
      obtain ⟨b, off, spot⟩ := a
      have hat0 := hat 0 (by decide)
      rw [hcs'] at hat
      have hspot : spot = none := by
        obtain ⟨cs0, hc0, htr0⟩ := hi 0 (by omega)
        rw [hC] at hc0
        obtain ⟨_, hcl0, hat0⟩ := World.cells?_some hc0
        have h1 := hat0 0 (by decide)
        have h2 : cs0[0]? = some (cs0[0]'(by omega)) := List.getElem?_eq_getElem (by omega)
        rw [h2] at h1
        simpa [Addr.add] using World.cell?_spot h1
      subst hspot
      have key : ∀ j, j < 3 → w.cell? ⟨b, off + i * 3 + j, none⟩ = (prth l i).cells[j]? := fun j hj => by
        have h1 := hat j hj
        rw [Go.Deep.add_add] at h1
        have e : (⟨b, off, none⟩ : Addr).add (i * 3 + j) = ⟨b, off + i * 3 + j, none⟩ := by
          unfold Addr.add; split
          · rename_i h0; simp <;> omega
          · simp [Nat.add_assoc]
        rw [e] at h1; exact h1
      exact ⟨b, off, rfl, key 0 (by decide), key 1 (by decide), key 2 (by decide)⟩
    obtain ⟨b, off, rfl, _⟩ := each 0 hl
    refine ⟨b, off, c, by rw [hn]; exact hcs, fun i hil => ?_⟩
    obtain ⟨b', off', e, hR⟩ := each i hil
    cases e
    exact ⟨b, off, rfl, hR⟩
def tabD5 : DataW Unit := .agg ([0, 1, 2, 3, 4].map fun k => .slice ((hrowsP k).map rowD5) [])
set_option maxRecDepth 100000 in
theorem ptab_of {W : World} {g : Nat} {cs : Array Value} {fuel : Nat} {p : List MemPlace} (hgg : g = 5) (hg : Tryz.prog.globalNamed "sextant/pack.rows" = some g) (hv : W.var? Tryz.prog "sextant/pack.rows" = some cs)
    (h : DataW.trod (fun _ => ()) Tryz.prog W 0 (fun _ => true) false fuel 339 cs.toList = some (tabD5, p)) : PTab W.heap.size W := by
  obtain ⟨xs, m, _, e, hcl, hxl, hx⟩ := DataW.trod_array Tryz.underlying339 h
  have hC : Tryz.prog.cellsOf 338 = 1 := by kernel_rfl
  have hC5 : Tryz.prog.cellsOf 339 = 5 := by kernel_rfl
  rw [hC5] at hcl
  rw [hC] at hx
  have hd : tabD5 = .agg (xs.map (·.1)) := congrArg Prod.fst e
  unfold tabD5 at hd
  have hd2 : ([0, 1, 2, 3, 4].map fun k => (DataW.slice ((hrowsP k).map rowD5) [] : DataW Unit)) = xs.map (·.1) := by injection hd
  subst hgg
  have key : ∀ k, k < 5 → ∃ tb tq rc, cs[k]? = some (.slice (some ⟨tb, tq, none⟩) (len (hrowsP k)) rc) ∧ PRows W (some ⟨tb, tq, none⟩) (hrowsP k) := fun k hk => by
    have hxk : k < xs.length := by omega
    have h1 := hx k hk
    rw [List.getElem?_eq_getElem hxk] at h1
    have h2 : (xs[k]'hxk).1 = .slice ((hrowsP k).map rowD5) [] := by
      have h3 : (xs.map (·.1))[k]? = some (xs[k]'hxk).1 := by rw [List.getElem?_map, List.getElem?_eq_getElem hxk]; rfl
      rw [← hd2, List.getElem?_map] at h3
      have h4 : [0, 1, 2, 3, 4][k]? = some k := by
        have : k = 0 ∨ k = 1 ∨ k = 2 ∨ k = 3 ∨ k = 4 := by omega
        rcases this with rfl | rfl | rfl | rfl | rfl <;> rfl
      rw [h4] at h3
      exact (Option.some.inj h3).symm
    have h5 : DataW.trod (fun _ => ()) Tryz.prog W 0 (fun _ => true) false m 338 ((cs.toList.drop (k * 1)).take 1) = some (.slice ((hrowsP k).map rowD5) [], (xs[k]'hxk).2) := by rw [h1, ← h2]
    obtain ⟨tb, tq, rc, hcs, hr⟩ := laid_prows h5 (rowsP_pos k)
    refine ⟨tb, tq, rc, ?_, hr⟩
    have h6 : ((cs.toList.drop (k * 1)).take 1)[0]? = some (.slice (some ⟨tb, tq, none⟩) (len (hrowsP k)) rc) := by rw [hcs]; rfl
    rw [List.getElem?_take, if_pos (by decide), List.getElem?_drop] at h6
    simpa using h6
  have hlt : 5 < W.heap.size := by
    obtain ⟨tb, tq, rc, h1, h2⟩ := key 0 (by decide)
    have := World.var?_cell hg hv 0
    exact lt_of_cell (this.trans h1)
  refine ⟨hlt, Nat.le_refl _, fun k hk => ?_⟩
  obtain ⟨tb, tq, rc, h1, h2⟩ := key k hk
  refine ⟨tb, tq, rc, ?_, (World.var?_cell hg hv k).trans h1, h2⟩
  obtain ⟨b, off, e, hR⟩ := h2 0 (rowsP_pos k)
  cases e
  exact lt_of_cell hR.c0
end Go.Proofs.YtpobhbdomldecaaGreatDoor
namespace Go.Proofs.YtpobhbdomldecaaGreatDoor
set_option linter.unusedSimpArgs false
set_option linter.unusedVariables false
open Go.RowKit Go.ChangeShapes Go.WideShapes Go.ChangeAt
set_option maxRecDepth 100000 in
theorem of_laidHd {W : World} (h : laidMetH Tryz.prog Rows.headerRootsRow.laid W) : PT W.heap.size W := by
  have h' : laidMet Tryz.prog Rows.headerRootsRow.laid W := h
  obtain ⟨ps, ⟨g0, t0, cs0, f0, p0, q0, hg0, ht0, hv0, hd0, _⟩, _⟩ := h'
  obtain rfl : 5 = g0 := Option.some.inj ((show _ = some 5 by kernel_rfl).symm.trans hg0)
  obtain rfl : 339 = t0 := Option.some.inj ((show _ = some 339 by kernel_rfl).symm.trans ht0)
  exact ⟨ptab_of rfl hg0 hv0 hd0, Nat.le_refl _⟩
end Go.Proofs.YtpobhbdomldecaaGreatDoor
namespace Go.Proofs.YtpobhbdomldecaaGreatDoor.hknown
set_option linter.unusedSimpArgs false
set_option linter.unusedVariables false
open Go.RowKit Go.ChangeShapes Go.WideShapes Go.ChangeAt
theorem door_met (os : Os) (args : Array Value) : laidMetH Tryz.prog Rows.headerKnownRow.laid ((World.doorLaid Tryz.prog 72 os).forCall (fun _ _ => 0) ⟨#[], args, []⟩).memory :=
  laidMetH_of_parts3 (fuel := 8) (laidMet_of_run' 8 (by kernel_rfl) (by kernel_rfl)) (by kernel_rfl) (by kernel_rfl)
set_option maxRecDepth 100000 in
theorem lifted (os : Os) (started : os.Started) (H : Type) (enc : TypeId × Value → H) :
    ReturnsInHanded {} Tryz.checked os 5 .any (fun w args => (Rows.headerKnownSpec.pre enc Tryz.prog Tryz.f5 [] false w args ∧ laidMetH Tryz.prog Rows.headerKnownRow.laid w) ∧ sizedMet enc Tryz.prog Tryz.f5 (OpenSpec.ofChange Rows.headerKnownSpec) false w args)
      (Rows.headerKnownSpec.post enc Tryz.prog Tryz.f5 false true false false) := by
  refine returnsInHanded_of_change_and (C := Tryz.checked) (X := fun w _ => laidMetH Tryz.prog Rows.headerKnownRow.laid w) (fun _ _ _ hh h => h.of_heap hh) own started (by kernel_rfl) Tryz.func5
    (ChangeSpec.witness_shaped (enc := enc) (C := Tryz.checked) (os := os) (X := fun w _ => laidMetH Tryz.prog Rows.headerKnownRow.laid w) false (World.doorLaid Tryz.prog 72 os) #[] 8 rfl (World.shaped_of_RefB (by kernel_rfl) (by kernel_rfl)) (by kernel_rfl) (by kernel_rfl) (by kernel_rfl) (door_met os _)) ?_
  intro W base args ds gs before hval0 hW _ _ hL _
  have hW' := hW
  obtain ⟨p, q, hA0, hV, rfl, hfz, hnd⟩ := hW
  have hA : DataW.TrodAll enc Tryz.prog W 0 (fun _ => true) true Tryz.f5.params.toList args.toList ds p := hA0
  rw [Tryz.params5] at hA
  obtain ⟨hargs, rfl, rfl⟩ := trodAll_nil hA
  obtain rfl : args = #[] := by cases args; simp_all
  obtain ⟨rfl, rfl⟩ := trodVars_none hV
  have hT := of_laidHd (show laidMetH Tryz.prog Rows.headerRootsRow.laid W from hL)
  clear hA0 hval0
  refine (known23_law W.heap.size W hT).mono fun e W' ⟨he, bel⟩ => ?_
  subst he
  exact ⟨_, rfl, _, _, _, [], _, [], hW', trodAll_mk1 (shut_bool Tryz.underlying4 _), trodAll_mk0, rfl, bel.frame _, fun h => by cases h⟩
end Go.Proofs.YtpobhbdomldecaaGreatDoor.hknown
