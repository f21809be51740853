/- Parts of the proof, one behind the other. -/
import Derived.Test.YtpobhbdomldecaaGreatDoorHchP5
import Derived.ProofKit
import Derived.OpenShut
import Derived.ShutString
import Derived.ChangeOld
import Derived.Deep.Slices
import Derived.Deep.Fields
import Derived.LaidMore
import Derived.LaidHandle
import Derived.Stop.Joined
import Derived.ChangeVars
import Derived.JoinedOf
import Derived.RowKitTokens
import Derived.ChangeMaps5
import Derived.Test.YtpobhbdomldecaaGreatDoorCards
import Derived.Test.YtpobhbdomldecaaGreatDoorTie
import Derived.SevenTiedAt
namespace Go.Proofs.YtpobhbdomldecaaGreatDoor
open Go.RowKit
set_option linter.unusedSimpArgs false
set_option linter.unusedVariables false
theorem own_off {base n size e : Nat} {v : Value} {w : World} {xs : List Value} (h : w.ownsRow base e size v n xs) {g o : Nat} {u : Value} (hne : v.ownBlock ≠ some g) : (w.setCell ⟨g, o, none⟩ u).ownsRow base e size v n xs := by
  refine ⟨h.1, ?_⟩
  rcases h.2 with h2 | ⟨g9, cap, cur, hv, hg, hh, hr2⟩
  · exact .inl h2
  · refine .inr ⟨g9, cap, cur, hv, hg, block_setCell_ne hh (by show g9 ≠ g; intro e; subst e; exact hne (by rw [hv]; rfl)) u, hr2⟩
theorem own_other2 {base b2 g c n : Nat} {v : Value} {L : List Hdr} {w : World} {xs : List Value} (h : w.ownsRow b2 9 1 v n xs) (ho : OwnH base g c L w) : v.ownBlock ≠ some g := by
  rcases own_other h ho (by decide) with h1 | h1
  · rw [h1]; exact fun e => by cases e
  · exact h1
theorem OwnH.put {base g c : Nat} {L : List Hdr} {w : World} {m j : Nat} {r r' : Hdr} {u : Value} (h : OwnH base g c (L.set m r) w) (hm : m < len L) (hj : j < 4) (hr : r'.cells = r.cells.set j u) : OwnH base g c (L.set m r') (w.setCell ⟨g, m * 4 + j, none⟩ u) := by
  have h1 := h.set (i := m) (j := j) (r' := r') (by rw [hset_len]; exact hm) hj (by rw [hset_at L m m r hm, if_pos rfl]; exact hr)
  rwa [List.set_set] at h1
theorem OwnH.cell {base g c : Nat} {L : List Hdr} {w : World} {m : Nat} {r : Hdr} (h : OwnH base g c (L.set m r) w) (hm : m < len L) : HCells w g m r := by
  have h1 := h.at (i := m) (by rw [hset_len]; exact hm)
  rwa [hset_at L m m r hm, if_pos rfl] at h1
theorem OwnH.self {base g c : Nat} {L : List Hdr} {w : World} {m : Nat} (h : OwnH base g c L w) (hm : m < len L) : OwnH base g c (L.set m (hnth L m)) w := by
  have e : L.set m (hnth L m) = L := by
    rw [hnth_eq L m hm]; exact List.set_getElem_self hm
  rw [e]; exact h
theorem elL_set {L : List Hdr} {m : Nat} {r : Hdr} (h : m < len L) : elL ((L.set m r).take (m + 1)) = elL (L.take m) ++ [hbs r] := by
  rw [elL_snoc (L.set m r) m (by rw [hset_len]; exact h), hset_at L m m r h, if_pos rfl]
  congr 2
  rw [List.take_set]
  exact List.set_eq_of_length_le (by rw [List.length_take]; omega)
theorem OwnH.alloc' {base g c : Nat} {L : List Hdr} {w : World} (h : OwnH base g c L w) (o : Obj) : (w.alloc o).ownsRow base 33 4 (.slice (some ⟨g, 0, none⟩) (len L) c) (len L) (L.flatMap Hdr.cells) := World.ownsRow.alloc h o
theorem run_oneI (b n c k : Nat) (h : k < n) (hc : n ≤ c) (w : World) : (Instr.slice 36 (.slice (some ⟨b, 0, none⟩) n c) (some (.int .i64 (k : Nat))) (some (.int .i64 ((k : Nat) + 1))) none).run Tryz.prog w = .ok (.slice (some ⟨b, k, none⟩) 1 (c - k)) w := by
  have h1 : k + 1 ≤ c := by omega
  have h2 : ¬ c = k := by omega
  have h3 : ((k : Nat) : Int) + 1 = ((k + 1 : Nat) : Int) := by omega
  rw [h3]
  simp [go_sem, h1, h2]
  try omega
structure HcSt (f : Int) (N g c : Nat) (w wr : World) (v : Value) (L : List Hdr) (p : ByteArray) (m : Nat) : Prop where
  b : Below w.heap.size w wr
  o : OwnH w.heap.size g c L wr
  n : len L = N
  k : ∀ i, (hnth L i).Ok
  r : ChRow f L m
  p0 : m = 0 → p = ⟨#[]⟩
  p1 : 0 < m → p = hdg (hnth L (m - 1))
  t : wr.ownsRow w.heap.size 9 1 v m ((elL (L.take m)).map Value.string)
set_option maxRecDepth 100000 in
set_option maxHeartbeats 16000000 in
theorem chain23_law (B : Nat) (l : List Hdr) (a : Option Addr) (cap : Nat) (A : Nat) (tat : Nat) (ttx : ByteArray) (tpv : Bool) (w : World) (ht : PT B w) (hlen : len l ≤ cap) (hcap : cap ≤ 9223372036854775807) (h0 : a = none → cap = 0) (hc : Hdrs w a l) (hz : ∀ i, (hnth l i).prev.size ≤ 9223372036854775807 ∧ (hnth l i).txns.size ≤ 9223372036854775807 ∧ (hnth l i).seed.size ≤ 9223372036854775807)
    (hr : ∀ i, U64i (hnth l i).rnd) (hA : A ≤ 18446744073709551615) (hT : tat ≤ 255) (hx : ttx.size ≤ 9223372036854775807) :
    Calls Tryz.prog 8 #[.slice a (len l) cap, .int .u64 (A : Nat), .agg #[.int .u8 (tat : Nat), .string ttx, .bool tpv]] w fun e w' => e = .returned (.bool true) ∧ Below w.heap.size w w' := by
  obtain ⟨j0, hj, hy0, hy1, hy2⟩ := info_parts info_str
  have HY0 := Lib.hid hy0
  clear hy0
  have HT := Lib.hid ht
  have HC := Lib.hid hc
  have HR := Lib.hid hr
  have HA := Lib.hid hA
  have HTT := Lib.hid hT
  have HXX := Lib.hid hx
  have HCP := Lib.hid (And.intro hlen (And.intro hcap h0))
  have HZZ := Lib.hid hz
  obtain ⟨n, hn⟩ : ∃ n : Nat, min (len l) 64 = n := ⟨_, rfl⟩
  have mn : min ((len l : Nat) : Int) 64 = ((n : Nat) : Int) := by omega
  have sl := run_cut a (len l) cap n (by omega) hlen h0
  have HNN : Hid (n ≤ len l ∧ n ≤ 64) := Lib.hid (by omega)
  clear ht hc hz hr hA hT hx hn hlen hcap h0
  go_enter Tryz.func8, Tryz.ntmps8
  go_wp2_with fail
  refine (works23_any B _ (HT.out.below (balloc (Below.refl _ _) _))).mono ?_
  rintro e w1 ⟨rfl, hb⟩
  have HB1 : Hid (Below w.heap.size w w1) := Lib.hid (bnext (balloc (Below.refl _ _) _) hb)
  have HX1 : Hid (w1.heap[w.heap.size]? = some (.cells #[.int .u8 (tat : Nat), .string ttx, .bool tpv] 60 (0, 0))) := Lib.hid ((hb.block _ (by simp)).trans (heap_alloc_new _ _))
  obtain ⟨tb, htb⟩ : ∃ tb, w.heap.size = tb := ⟨_, rfl⟩
  have HTB : Hid (w.heap.size = tb) := Lib.hid htb
  rw [htb] at HX1 ⊢
  clear hb htb
  by_cases hn0 : n = 0
  · have z1 : (((n : Nat) : Int) == 0) = true := by simp; exact hn0
    have z2 : ((n : Nat) : Int) = 0 := by omega
    clear hn0
    go_wp2_with fail
    refine (refused_any B [] none 0 w1 (HT.out.below HB1.out) (Hdrs.nil _ _) (hoks (fun p hp => by cases hp)) (by decide)).mono ?_
    rintro e w2 ⟨rfl, hb⟩
    have el0 : (!elOk []) = true := by decide
    rw [el0]
    have HB2 : Hid (Below w.heap.size w w2) := Lib.hid (bnext HB1.out hb)
    clear hb z1 z2 el0 mn sl
    go_wp2
    go_ret
    exact ⟨rfl, HB2.out⟩
  · have z1 : (((n : Nat) : Int) == 0) = false := by simp; exact hn0
    have z2 : ¬ n = 0 := hn0
    have HN0 : Hid (0 < n) := Lib.hid (by omega)
    have hln : len (l.take n) = n := by rw [len_eq, List.length_take]; have := HNN.out.1; rw [len_eq] at this; omega
    have HSH := Lib.hid (hshort_any a cap (l.take n) w1 (by rw [hln]; have := HNN.out; omega) ((HC.out.below HB1.out).take n) (fun i => by
      rcases Nat.lt_or_ge i n with h | h
      · have e : hnth (l.take n) i = hnth l i := by
          unfold hnth
          rw [List.getD_eq_getElem?_getD, List.getElem?_take, if_pos h, List.getD_eq_getElem?_getD]
        rw [e]; exact HZZ.out i
      · have e : hnth (l.take n) i = Hdr.zero := by
          unfold hnth
          rw [List.getD_eq_getElem?_getD, List.getElem?_take, if_neg (by omega)]; rfl
        rw [e]; exact ⟨by decide, by decide, by decide⟩))
    have HRT : Hid (∀ p ∈ l.take n, U64i p.rnd) := Lib.hid (fun p hp => by
      obtain ⟨i, hi, rfl⟩ := List.getElem_of_mem (List.mem_of_mem_take hp)
      have := HR.out i
      rwa [hnth_eq l i hi] at this)
    obtain ⟨ln, hl9⟩ : ∃ ln, l.take n = ln := ⟨_, rfl⟩
    rw [hl9] at HSH HRT hln
    rw [hln] at HSH
    have HLN := Lib.hid hln
    clear hn0 hl9 hln
    go_wp2_with fail
    refine HSH.out.mono ?_
    rintro e w2 ⟨v0, rfl, hown, hb⟩
    have HB2 : Hid (Below w1.heap.size w1 w2) := Lib.hid hb
    have HX2 := Lib.hid ((hb.block _ (lt_of_block HX1.out)).trans HX1.out)
    have HL0 : Hid (len (shortH ln) = n) := Lib.hid (by rw [shortH_len, HLN.out]; have := HNN.out.2; omega)
    have HK0 : Hid (∀ i, (hnth (shortH ln) i).Ok) := Lib.hid (hoks (fun p hp => by
      unfold shortH at hp
      obtain ⟨q, hq, rfl⟩ := List.mem_map.1 hp
      exact cutH_ok (HRT.out q (List.mem_of_mem_take hq))))
    obtain ⟨L0, hL0⟩ : ∃ L0, shortH ln = L0 := ⟨_, rfl⟩
    rw [hL0] at HL0 HK0 hown
    rcases ownH_of hown with ⟨_, rfl⟩ | ⟨g, c, rfl, ho⟩
    · exact absurd HL0.out (by have := HN0.out; show ¬ 0 = n; omega)
    have HO0 : Hid (OwnH w1.heap.size g c L0 w2) := Lib.hid ho
    have HT := Lib.hid (HT.out.below HB1.out)
    have HX0 := HX1
    rw [HL0.out]
    clear hown hb hL0 ho z1 z2 mn sl HSH HRT
    obtain ⟨f, hf⟩ : ∃ f : Int, f = ((A / 2 : Nat) : Int) := ⟨_, rfl⟩
    have HF : Hid (0 ≤ f ∧ f ≤ 9223372036854775807) := Lib.hid (by have := HA.out; omega)
    have HFE := Lib.hid hf
    clear hf
    go_wp2
    go_loopg [7, 8, 9] n (fun gg pv ev i wr => ∃ (m : Nat) (L : List Hdr) (p : ByteArray), gg + m = n ∧ pv = .string p ∧ i = .int .i64 (m : Nat) ∧ Hid (HcSt f n g c w1 wr ev L p m))
    case atStart => exact ⟨0, L0, ⟨#[]⟩, rfl, rfl, rfl, Lib.hid ⟨HB2.out, HO0.out, HL0.out, HK0.out, ChRow.zero _ _, fun _ => rfl, fun h => by omega, World.ownsRow_nil _ _ _ _⟩⟩
    case round =>
      obtain ⟨m, L, p, hm, rfl, rfl, HS⟩ := hrel
      by_cases hlt : m < n
      · have HM : Hid (m < len L) := Lib.hid (by rw [HS.out.n]; exact hlt)
        obtain ⟨e0, e1, e2, e3, fz⟩ := HS.out.o.at HM.out
        have HQO := Lib.hid (HS.out.k m)
        obtain ⟨q, hq⟩ : ∃ q, hnth L m = q := ⟨_, rfl⟩
        rw [hq] at e0 e1 e2 e3 HQO
        have HQ := Lib.hid hq
        have h64 := HNN.out.2
        have hfb := HF.out
        have b0 : (m : Int) < n := by omega
        have b1 : IntKind.u64.wrap ((m : Nat) : Int) = ((m : Nat) : Int) := IntWalk.u64_in _ (by omega)
        have b2 : m < n := hlt
        obtain ⟨X, hX⟩ : ∃ X, f + ((m : Nat) : Int) = X := ⟨_, rfl⟩
        have HX : Hid (f + ((m : Nat) : Int) = X) := Lib.hid hX
        have HXU : Hid (U64i X) := Lib.hid (by unfold U64i; omega)
        have b3 : IntKind.u64.wrap (((A : Nat) : Int) / 2 + ((m : Nat) : Int)) = X := by
          have := HFE.out
          rw [← hX, IntWalk.u64_in _ (by omega)]; omega
        clear hq hX
        have HO0 := Lib.hid (HS.out.o.self HM.out)
        rw [HQ.out] at HO0
        have HB0 := Lib.hid HS.out.b
        have HE0 := Lib.hid HS.out.t
        go_upto_region 13 with fail
        clear e0 e1 e2 e3 fz
        obtain ⟨W1, hW⟩ : ∃ W, wr.setCell ⟨g, m * 4, none⟩ (.int .u64 X) = W := ⟨_, rfl⟩
        have HO1 : Hid (OwnH w1.heap.size g c (L.set m ⟨X, q.prev, q.txns, q.seed⟩) W1) := Lib.hid (by rw [← hW]; exact HO0.out.put (j := 0) HM.out (by decide) rfl)
        have HB1 : Hid (Below w1.heap.size w1 W1) := Lib.hid (by rw [← hW]; exact bset HB0.out HO0.out.lt.1 _)
        have HE1 : Hid (W1.ownsRow w1.heap.size 9 1 u8 m ((elL (L.take m)).map Value.string)) := Lib.hid (by rw [← hW]; exact own_off HE0.out (own_other2 HE0.out HO0.out))
        rw [hW]
        clear hW b1 b3
        obtain ⟨e0, e1, e2, e3, fz⟩ := HO1.out.cell HM.out
        go_wp2_with fail
        refine (dig23_any q.txns W1 HQO.out.t1).mono ?_
        rintro e W2 ⟨rfl, hb⟩
        obtain ⟨D2, hD⟩ : ∃ D, digT q.txns = D := ⟨_, rfl⟩
        have HD2 : Hid (D2.size = 32) := Lib.hid (by rw [← hD]; exact digT_size _)
        rw [hD]
        have HO2 := Lib.hid (HO1.out.below hb)
        have HB2 : Hid (Below w1.heap.size w1 W2) := Lib.hid (bnext HB1.out hb)
        have HE2 := Lib.hid (own_below HE1.out hb)
        clear e0 e1 e2 e3 fz hb hD
        obtain ⟨e0, e1, e2, e3, fz⟩ := HO2.out.cell HM.out
        go_upto_region 14 with fail
        clear e0 e1 e2 e3 fz
        obtain ⟨W3, hW⟩ : ∃ W, W2.setCell ⟨g, m * 4 + 2, none⟩ (.string D2) = W := ⟨_, rfl⟩
        have HO3 : Hid (OwnH w1.heap.size g c (L.set m ⟨X, q.prev, D2, q.seed⟩) W3) := Lib.hid (by rw [← hW]; exact HO2.out.put (j := 2) HM.out (by decide) rfl)
        have HB3 : Hid (Below w1.heap.size w1 W3) := Lib.hid (by rw [← hW]; exact bset HB2.out HO2.out.lt.1 _)
        have HE3 : Hid (W3.ownsRow w1.heap.size 9 1 u8 m ((elL (L.take m)).map Value.string)) := Lib.hid (by rw [← hW]; exact own_off HE2.out (own_other2 HE2.out HO2.out))
        rw [hW]
        clear hW
        obtain ⟨e0, e1, e2, e3, fz⟩ := HO3.out.cell HM.out
        go_wp2_with fail
        refine (dig23_any q.seed W3 HQO.out.s1).mono ?_
        rintro e W4 ⟨rfl, hb⟩
        obtain ⟨D4, hD⟩ : ∃ D, digT q.seed = D := ⟨_, rfl⟩
        have HD4 : Hid (D4.size = 32) := Lib.hid (by rw [← hD]; exact digT_size _)
        rw [hD]
        have HO4 := Lib.hid (HO3.out.below hb)
        have HB4 : Hid (Below w1.heap.size w1 W4) := Lib.hid (bnext HB3.out hb)
        have HE4 := Lib.hid (own_below HE3.out hb)
        clear e0 e1 e2 e3 fz hb hD
        obtain ⟨e0, e1, e2, e3, fz⟩ := HO4.out.cell HM.out
        go_upto_region 15 with fail
        clear e0 e1 e2 e3 fz
        obtain ⟨W5, hW⟩ : ∃ W, W4.setCell ⟨g, m * 4 + 3, none⟩ (.string D4) = W := ⟨_, rfl⟩
        have HO5 : Hid (OwnH w1.heap.size g c (L.set m ⟨X, q.prev, D2, D4⟩) W5) := Lib.hid (by rw [← hW]; exact HO4.out.put (j := 3) HM.out (by decide) rfl)
        have HB5 : Hid (Below w1.heap.size w1 W5) := Lib.hid (by rw [← hW]; exact bset HB4.out HO4.out.lt.1 _)
        have HE5 : Hid (W5.ownsRow w1.heap.size 9 1 u8 m ((elL (L.take m)).map Value.string)) := Lib.hid (by rw [← hW]; exact own_off HE4.out (own_other2 HE4.out HO4.out))
        rw [hW]
        clear hW
        obtain ⟨e0, e1, e2, e3, fz⟩ := HO5.out.cell HM.out
        go_wp2_with fail
        refine (dig23_any q.prev W5 HQO.out.p1).mono ?_
        rintro e W6 ⟨rfl, hb⟩
        obtain ⟨D6, hD⟩ : ∃ D, digT q.prev = D := ⟨_, rfl⟩
        have HD6 : Hid (D6.size = 32) := Lib.hid (by rw [← hD]; exact digT_size _)
        rw [hD]
        have HO6 := Lib.hid (HO5.out.below hb)
        have HB6 : Hid (Below w1.heap.size w1 W6) := Lib.hid (bnext HB5.out hb)
        have HE6 := Lib.hid (own_below HE5.out hb)
        clear e0 e1 e2 e3 fz hb hD
        obtain ⟨e0, e1, e2, e3, fz⟩ := HO6.out.cell HM.out
        go_upto_region 16 with fail
        clear e0 e1 e2 e3 fz
        obtain ⟨W7, hW⟩ : ∃ W, W6.setCell ⟨g, m * 4 + 1, none⟩ (.string D6) = W := ⟨_, rfl⟩
        have HO7 : Hid (OwnH w1.heap.size g c (L.set m ⟨X, D6, D2, D4⟩) W7) := Lib.hid (by rw [← hW]; exact HO6.out.put (j := 1) HM.out (by decide) rfl)
        have HB7 : Hid (Below w1.heap.size w1 W7) := Lib.hid (by rw [← hW]; exact bset HB6.out HO6.out.lt.1 _)
        have HE7 : Hid (W7.ownsRow w1.heap.size 9 1 u8 m ((elL (L.take m)).map Value.string)) := Lib.hid (by rw [← hW]; exact own_off HE6.out (own_other2 HE6.out HO6.out))
        rw [hW]
        clear hW
        obtain ⟨e0, e1, e2, e3, fz⟩ := HO7.out.cell HM.out
        clear e0 e1 e2 e3 fz
        by_cases hm0 : 0 < m
        · obtain ⟨e0, e1, e2, e3, fz⟩ := HO7.out.cell HM.out
          have HP1 : Hid (p = hdg (hnth L (m - 1))) := Lib.hid (HS.out.p1 hm0)
          obtain ⟨pv, hpv⟩ : ∃ pv, p = pv := ⟨_, rfl⟩
          have HPV : Hid (pv.size = 32) := Lib.hid (by rw [← hpv, HP1.out]; exact hdg_size _)
          have HPP : Hid (0 < m → pv = hdg (hnth L (m - 1))) := Lib.hid (fun _ => by rw [← hpv]; exact HP1.out)
          go_upto_region 18 with fail
          clear e0 e1 e2 e3 fz
          rw [hpv]
          obtain ⟨W8, hW⟩ : ∃ W, W7.setCell ⟨g, m * 4 + 1, none⟩ (.string pv) = W := ⟨_, rfl⟩
          have HO8 : Hid (OwnH w1.heap.size g c (L.set m ⟨X, pv, D2, D4⟩) W8) := Lib.hid (by rw [← hW]; exact HO7.out.put (j := 1) HM.out (by decide) rfl)
          have HB8 : Hid (Below w1.heap.size w1 W8) := Lib.hid (by rw [← hW]; exact bset HB7.out HO7.out.lt.1 _)
          have HE8 : Hid (W8.ownsRow w1.heap.size 9 1 u8 m ((elL (L.take m)).map Value.string)) := Lib.hid (by rw [← hW]; exact own_off HE7.out (own_other2 HE7.out HO7.out))
          rw [hW]
          clear hW hpv
          have HR8 : Hid ((⟨X, pv, D2, D4⟩ : Hdr).Ok) := Lib.hid ⟨HXU.out, by show pv.size ≤ _; rw [HPV.out]; decide, by show D2.size ≤ _; rw [HD2.out]; decide, by show D4.size ≤ _; rw [HD4.out]; decide⟩
          have HK8 : Hid (hOk ⟨X, pv, D2, D4⟩ = true) := Lib.hid (by
            rw [hOk_eq]
            show (decide (pv.size = 32) && decide (D4.size = 32) && decide (D2.size = 32)) = true
            rw [HPV.out, HD4.out, HD2.out]; rfl)
          obtain ⟨e0, e1, e2, e3, fz⟩ := HO8.out.cell HM.out
          go_wp2_with fail
          refine (hw_yes B ⟨X, pv, D2, D4⟩ W8 (HT.out.below HB8.out) HR8.out HK8.out).mono ?_
          rintro e W9 ⟨rfl, hb⟩
          have HO9 := Lib.hid (HO8.out.below hb)
          have HB9 : Hid (Below w1.heap.size w1 W9) := Lib.hid (bnext HB8.out hb)
          have HE9 := Lib.hid (own_below HE8.out hb)
          clear e0 e1 e2 e3 fz hb
          obtain ⟨e0, e1, e2, e3, fz⟩ := HO9.out.cell HM.out
          go_wp2_with fail
          refine (hdig_any B ⟨X, pv, D2, D4⟩ W9 (HT.out.below HB9.out) HR8.out).mono ?_
          rintro e W10 ⟨rfl, hb⟩
          have y1 : dgS ⟨X, pv, D2, D4⟩ = hdg ⟨X, pv, D2, D4⟩ := if_pos HK8.out
          have y2 : dgE ⟨X, pv, D2, D4⟩ = 0 := if_pos HK8.out
          rw [y1, y2]
          obtain ⟨S8, hS8⟩ : ∃ S8, hbs ⟨X, pv, D2, D4⟩ = S8 := ⟨_, rfl⟩
          obtain ⟨G8, hG8⟩ : ∃ G8, hdg ⟨X, pv, D2, D4⟩ = G8 := ⟨_, rfl⟩
          have HS8 := Lib.hid hS8
          have HG8 := Lib.hid hG8
          have HSZ : Hid (S8.size ≤ 1000000) := Lib.hid (by rw [← hS8]; exact Nat.le_trans (hbs_size HK8.out) (by decide))
          have HHH : Hid (hashP hdrT [S8] = G8) := Lib.hid (by rw [← hS8, ← hG8]; rfl)
          rw [hS8, hG8]
          have HO10 := Lib.hid (HO9.out.below hb)
          have HB10 : Hid (Below w1.heap.size w1 W10) := Lib.hid (bnext HB9.out hb)
          have HE10 := Lib.hid (own_below HE9.out hb)
          clear e0 e1 e2 e3 fz hb y1 y2 hS8 hG8
          go_wp2_with fail
          refine (hash1_any hdrT S8 W10 (by decide) (by decide) HSZ.out).mono ?_
          rintro e W11 ⟨rfl, hb⟩
          rw [HHH.out]
          have gg : (G8.toList != G8.toList) = false := by unfold bne; rw [str_beq, decide_eq_true rfl]; rfl
          have HO11 := Lib.hid (HO10.out.below hb)
          have HB11 : Hid (Below w1.heap.size w1 W11) := Lib.hid (bnext HB10.out hb)
          have HE11 := Lib.hid (own_below HE10.out hb)
          clear hb
          go_wp2_with (at_builtin; refine wpList_append_lies _ rfl _ _ 36 rfl w1.heap.size 9 j0 (.string ⟨#[]⟩) 1 16 Tryz.underlying36 hj HY0.out hy1 hy2 rfl (by decide) _ m _ rfl (HE11.out.alloc _) ⟨W11.heap.size, 0, none⟩ 1 1 [.string S8] rfl rfl ?d1 ?d2 (by decide) ?d4 ?d5 ?d6 _ rfl ?_)
          case d1 => exact World.news_of_block (alloc_new_at _ rfl)
          case d2 => intro u hu; simp at hu; subst hu; rfl
          case d4 => unfold maxLen; omega
          case d5 => omega
          case d6 => have := HB11.out.size; simp; omega
          intro g2 cp2 W12 hown hgrow hat hgl
          have HB12 : Hid (Below w1.heap.size w1 W12) := Lib.hid (grownBy_below (balloc HB11.out _) hgrow (fun q hq => (HE11.out.lt q hq).1))
          have HE12 : Hid (W12.ownsRow w1.heap.size 9 1 (.slice (some ⟨g2, 0, none⟩) (m + 1) cp2) (m + 1) ((elL ((L.set m ⟨X, pv, D2, D4⟩).take (m + 1))).map Value.string)) := Lib.hid (by
            rw [elL_set HM.out, List.map_append, HS8.out]
            simpa using hown)
          have HO12 : Hid (OwnH w1.heap.size g c (L.set m ⟨X, pv, D2, D4⟩) W12) := Lib.hid (World.ownsRow.kept (HO11.out.alloc' (.cells #[.string S8] 9)) hgrow (own_other HO11.out HE11.out (by decide)))
          clear hown hgrow hat hgl gg
          go_wp2
          go_roundg (gk - 1)
          case rel => exact ⟨m + 1, L.set m ⟨X, pv, D2, D4⟩, G8, by omega, rfl, by go_num, Lib.hid ⟨HB12.out, HO12.out, by rw [hset_len]; exact HS.out.n, ok_set HS.out.k HM.out HR8.out,
            ChRow.next (HS.out.r.same (fun j hj => by rw [hset_at _ _ _ _ HM.out, if_neg (by omega)])) (by rw [hset_at _ _ _ _ HM.out, if_pos rfl]; exact HX.out.symm) (by rw [hset_at _ _ _ _ HM.out, if_pos rfl]; exact HK8.out) (fun h0 => by rw [hset_at _ _ _ _ HM.out, if_pos rfl, hset_at _ _ _ _ HM.out, if_neg (by omega)]; exact HPP.out h0),
            fun h => by omega, fun _ => by rw [Nat.add_sub_cancel, hset_at _ _ _ _ HM.out, if_pos rfl]; exact HG8.out.symm, HE12.out⟩⟩
          case measure => omega
        · obtain ⟨pv, hpv⟩ : ∃ pv, D6 = pv := ⟨_, rfl⟩
          have HPV : Hid (pv.size = 32) := Lib.hid (by rw [← hpv]; exact HD6.out)
          have HPP : Hid (0 < m → pv = hdg (hnth L (m - 1))) := Lib.hid (fun h => absurd h hm0)
          have HO8 := HO7
          have HB8 := HB7
          have HE8 := HE7
          go_upto_region 18 with fail
          rw [hpv] at HO8 ⊢
          obtain ⟨W8, hW⟩ : ∃ W, W7 = W := ⟨_, rfl⟩
          rw [hW] at HO8 HB8 HE8 ⊢
          clear hW hpv
          have HR8 : Hid ((⟨X, pv, D2, D4⟩ : Hdr).Ok) := Lib.hid ⟨HXU.out, by show pv.size ≤ _; rw [HPV.out]; decide, by show D2.size ≤ _; rw [HD2.out]; decide, by show D4.size ≤ _; rw [HD4.out]; decide⟩
          have HK8 : Hid (hOk ⟨X, pv, D2, D4⟩ = true) := Lib.hid (by
            rw [hOk_eq]
            show (decide (pv.size = 32) && decide (D4.size = 32) && decide (D2.size = 32)) = true
            rw [HPV.out, HD4.out, HD2.out]; rfl)
          obtain ⟨e0, e1, e2, e3, fz⟩ := HO8.out.cell HM.out
          go_wp2_with fail
          refine (hw_yes B ⟨X, pv, D2, D4⟩ W8 (HT.out.below HB8.out) HR8.out HK8.out).mono ?_
          rintro e W9 ⟨rfl, hb⟩
          have HO9 := Lib.hid (HO8.out.below hb)
          have HB9 : Hid (Below w1.heap.size w1 W9) := Lib.hid (bnext HB8.out hb)
          have HE9 := Lib.hid (own_below HE8.out hb)
          clear e0 e1 e2 e3 fz hb
          obtain ⟨e0, e1, e2, e3, fz⟩ := HO9.out.cell HM.out
          go_wp2_with fail
          refine (hdig_any B ⟨X, pv, D2, D4⟩ W9 (HT.out.below HB9.out) HR8.out).mono ?_
          rintro e W10 ⟨rfl, hb⟩
          have y1 : dgS ⟨X, pv, D2, D4⟩ = hdg ⟨X, pv, D2, D4⟩ := if_pos HK8.out
          have y2 : dgE ⟨X, pv, D2, D4⟩ = 0 := if_pos HK8.out
          rw [y1, y2]
          obtain ⟨S8, hS8⟩ : ∃ S8, hbs ⟨X, pv, D2, D4⟩ = S8 := ⟨_, rfl⟩
          obtain ⟨G8, hG8⟩ : ∃ G8, hdg ⟨X, pv, D2, D4⟩ = G8 := ⟨_, rfl⟩
          have HS8 := Lib.hid hS8
          have HG8 := Lib.hid hG8
          have HSZ : Hid (S8.size ≤ 1000000) := Lib.hid (by rw [← hS8]; exact Nat.le_trans (hbs_size HK8.out) (by decide))
          have HHH : Hid (hashP hdrT [S8] = G8) := Lib.hid (by rw [← hS8, ← hG8]; rfl)
          rw [hS8, hG8]
          have HO10 := Lib.hid (HO9.out.below hb)
          have HB10 : Hid (Below w1.heap.size w1 W10) := Lib.hid (bnext HB9.out hb)
          have HE10 := Lib.hid (own_below HE9.out hb)
          clear e0 e1 e2 e3 fz hb y1 y2 hS8 hG8
          go_wp2_with fail
          refine (hash1_any hdrT S8 W10 (by decide) (by decide) HSZ.out).mono ?_
          rintro e W11 ⟨rfl, hb⟩
          rw [HHH.out]
          have gg : (G8.toList != G8.toList) = false := by unfold bne; rw [str_beq, decide_eq_true rfl]; rfl
          have HO11 := Lib.hid (HO10.out.below hb)
          have HB11 : Hid (Below w1.heap.size w1 W11) := Lib.hid (bnext HB10.out hb)
          have HE11 := Lib.hid (own_below HE10.out hb)
          clear hb
          go_wp2_with (at_builtin; refine wpList_append_lies _ rfl _ _ 36 rfl w1.heap.size 9 j0 (.string ⟨#[]⟩) 1 16 Tryz.underlying36 hj HY0.out hy1 hy2 rfl (by decide) _ m _ rfl (HE11.out.alloc _) ⟨W11.heap.size, 0, none⟩ 1 1 [.string S8] rfl rfl ?d1 ?d2 (by decide) ?d4 ?d5 ?d6 _ rfl ?_)
          case d1 => exact World.news_of_block (alloc_new_at _ rfl)
          case d2 => intro u hu; simp at hu; subst hu; rfl
          case d4 => unfold maxLen; omega
          case d5 => omega
          case d6 => have := HB11.out.size; simp; omega
          intro g2 cp2 W12 hown hgrow hat hgl
          have HB12 : Hid (Below w1.heap.size w1 W12) := Lib.hid (grownBy_below (balloc HB11.out _) hgrow (fun q hq => (HE11.out.lt q hq).1))
          have HE12 : Hid (W12.ownsRow w1.heap.size 9 1 (.slice (some ⟨g2, 0, none⟩) (m + 1) cp2) (m + 1) ((elL ((L.set m ⟨X, pv, D2, D4⟩).take (m + 1))).map Value.string)) := Lib.hid (by
            rw [elL_set HM.out, List.map_append, HS8.out]
            simpa using hown)
          have HO12 : Hid (OwnH w1.heap.size g c (L.set m ⟨X, pv, D2, D4⟩) W12) := Lib.hid (World.ownsRow.kept (HO11.out.alloc' (.cells #[.string S8] 9)) hgrow (own_other HO11.out HE11.out (by decide)))
          clear hown hgrow hat hgl gg
          go_wp2
          go_roundg (gk - 1)
          case rel => exact ⟨m + 1, L.set m ⟨X, pv, D2, D4⟩, G8, by omega, rfl, by go_num, Lib.hid ⟨HB12.out, HO12.out, by rw [hset_len]; exact HS.out.n, ok_set HS.out.k HM.out HR8.out,
            ChRow.next (HS.out.r.same (fun j hj => by rw [hset_at _ _ _ _ HM.out, if_neg (by omega)])) (by rw [hset_at _ _ _ _ HM.out, if_pos rfl]; exact HX.out.symm) (by rw [hset_at _ _ _ _ HM.out, if_pos rfl]; exact HK8.out) (fun h0 => by rw [hset_at _ _ _ _ HM.out, if_pos rfl, hset_at _ _ _ _ HM.out, if_neg (by omega)]; exact HPP.out h0),
            fun h => by omega, fun _ => by rw [Nat.add_sub_cancel, hset_at _ _ _ _ HM.out, if_pos rfl]; exact HG8.out.symm, HE12.out⟩⟩
          case measure => omega
      · obtain rfl : m = n := by omega
        have b0 : ¬ ((m : Nat) : Int) < (m : Nat) := by omega
        have HB0 := Lib.hid HS.out.b
        have HO0 := Lib.hid HS.out.o
        have HLM := Lib.hid HS.out.n
        have HKK := Lib.hid HS.out.k
        have HCR := Lib.hid HS.out.r
        rw [← HLM.out] at HCR
        have HE0 := Lib.hid HS.out.t
        rw [show L.take m = L from by rw [← HLM.out]; exact take_len L] at HE0
        obtain ⟨E, hE⟩ : ∃ E, elL L = E := ⟨_, rfl⟩
        have HEL : Hid (len E = m) := Lib.hid (by rw [← hE, elL_len]; exact HLM.out)
        have HES : Hid (∀ i, i < len E → (tth E i).size ≤ 1000) := Lib.hid (by
          rw [← hE]
          exact elL_size (HCR.out.el (by rw [HLM.out]; exact HN0.out) (by rw [HLM.out]; exact HNN.out.2)))
        have HRR : Hid (rtS L = treeR E ∧ rtE L = 0) := Lib.hid (by
          have h := HCR.out.el (by rw [HLM.out]; exact HN0.out) (by rw [HLM.out]; exact HNN.out.2)
          exact ⟨by rw [← hE]; exact if_pos h, if_pos h⟩)
        have HLK : Hid (linkedH L = true) := Lib.hid (HCR.out.linked (by rw [HLM.out]; exact HN0.out) (by rw [HLM.out]; exact HNN.out.2))
        rw [hE] at HE0
        obtain ⟨av, cv, rfl, htx, hcv, _⟩ := TextsAre.own (show wr.ownsRow w1.heap.size 9 1 u8 m (E.map Value.string) from HE0.out)
        rw [HEL.out] at hcv ⊢
        have HTX := Lib.hid htx
        have HCV := Lib.hid hcv
        have HGL := Lib.hid HO0.out.lt
        clear hE htx hcv hm hlt
        have nn := HNN.out.2
        go_wp2_with fail
        refine (show Calls Tryz.prog 17 #[.slice (some ⟨g, 0, none⟩) m c] wr (RtIs L wr) from by
          have := hroot_any B L (some ⟨g, 0, none⟩) c wr (HT.out.below HB0.out) HO0.out.hdrs HKK.out (by rw [HLM.out]; omega)
          rw [HLM.out] at this; exact this).mono ?_
        rintro e x1 ⟨rfl, hb⟩
        rw [HRR.out.1, HRR.out.2]
        have HX1 : Hid (Below wr.heap.size wr x1) := Lib.hid hb
        clear hb b0
        go_wp2_with fail
        refine (show Calls Tryz.prog 42 #[.slice av m cv] x1 (BuildIs E x1) from by
          have := build_any E av cv x1 (HTX.out.below HX1.out) (by rw [HEL.out]; omega) (fun i hi => Nat.le_trans (HES.out i hi) (by decide))
          rw [HEL.out] at this; exact this).mono ?_
        rintro e x2 ⟨tp, rfl, htp, htr, hb⟩
        have HX2 : Hid (Below wr.heap.size wr x2) := Lib.hid (bnext HX1.out hb)
        have HTR := Lib.hid htr
        clear hb htp htr
        go_wp2_with fail
        refine (root_any E tp x2 HTR.out).mono ?_
        rintro e x3 ⟨rfl, rfl⟩
        rw [show plD E (depN E) (depN E) 0 = treeR E from rfl]
        obtain ⟨R, hR⟩ : ∃ R, treeR E = R := ⟨_, rfl⟩
        have HR9 := Lib.hid hR
        rw [hR]
        have rr : (R.toList != R.toList) = false := by unfold bne; rw [str_beq, decide_eq_true rfl]; rfl
        clear hR
        go_wp2_with fail
        refine (show Calls Tryz.prog 19 #[.slice (some ⟨g, 0, none⟩) m c] x2 (fun e w' => e = .returned (.bool true) ∧ Below x2.heap.size x2 w') from by
          have := hlinked_any B L (some ⟨g, 0, none⟩) c x2 ((HT.out.below HB0.out).below HX2.out) (HO0.out.below HX2.out).hdrs HKK.out (by rw [HLM.out]; omega)
          rw [HLM.out, HLK.out] at this; exact this).mono ?_
        rintro e x3 ⟨rfl, hb⟩
        have HX3 : Hid (Below wr.heap.size wr x3) := Lib.hid (bnext HX2.out hb)
        have hbx := hb
        have HTB3 := Lib.hid (((bnext HB0.out HX3.out).block _ (lt_of_block HX0.out)).trans HX0.out)
        have ct : ∀ o, x3.cell? ⟨tb, o, none⟩ = _ := block_cell HTB3.out
        have t0 := HTT.out
        have n0 := HN0.out
        obtain ⟨k, hk⟩ : ∃ k : Nat, tat % m = k := ⟨_, rfl⟩
        have HK : Hid (k < m) := Lib.hid (by rw [← hk]; exact Nat.mod_lt _ HN0.out)
        have z3 : ¬ m = 0 := by omega
        have w1' : IntKind.i64.wrap ((tat : Nat) : Int) = ((tat : Nat) : Int) := IntWalk.i64_in _ (by omega)
        clear hb rr
        go_upto_region 29 with fail
        rw [show ((tat : Nat) : Int) % ((m : Nat) : Int) = ((k : Nat) : Int) by rw [← hk]; simp]
        clear hk w1' t0 z3
        have HTR3 := Lib.hid (HTR.out.below hbx)
        have HO3 := Lib.hid (HO0.out.below HX3.out)
        have HTX3 := Lib.hid (HTX.out.below HX3.out)
        have HT3 := Lib.hid ((HT.out.below HB0.out).below HX3.out)
        have kb := HK.out
        have k1 : IntKind.u64.wrap ((k : Nat) : Int) = ((k : Nat) : Int) := IntWalk.u64_in _ (by omega)
        clear ct hbx
        go_wp2_with fail
        refine (show Calls Tryz.prog 46 #[.pointer (some ⟨tp, 0, none⟩), .slice (some ⟨x3.heap.size, 0, none⟩) 1 1] (x3.alloc (.cells #[.int .u64 (k : Nat)] 23)) (ProofIs (oneD E k) 0 (x3.alloc (.cells #[.int .u64 (k : Nat)] 23))) from
          prove_ok E tp [((k : Nat) : Int)] (some ⟨x3.heap.size, 0, none⟩) 1 _ (HTR3.out.below (balloc (Below.refl _ _) _)) (by rw [HEL.out]; omega) (fun i hi => ⟨_, 0, rfl, by
            have hi : i < 1 := hi
            obtain rfl : i = 0 := by omega
            rw [block_cell (heap_alloc_new _ _)]; rfl⟩) (by show 1 ≤ 100; decide) (by rw [← HEL.out] at kb; exact one_u64 (by rw [HEL.out]; omega) kb) (by rw [← HEL.out] at kb; exact one_may kb)).mono ?_
        rintro e x4 ⟨v4, rfl, ho4, hb⟩
        have HX4 : Hid (Below x3.heap.size x3 x4) := Lib.hid (bnext (balloc (Below.refl _ _) _) hb)
        obtain ⟨D, hD⟩ : ∃ D, oneD E k = D := ⟨_, rfl⟩
        have HD := Lib.hid hD
        rw [hD] at ho4
        obtain ⟨a4, c4, rfl, ht4, hc4, _⟩ := TextsAre.own ho4
        have HD4 := Lib.hid ht4
        have HC4 := Lib.hid hc4
        obtain ⟨gv, rfl, _, _, _, _⟩ := own_at (show wr.ownsRow w1.heap.size 9 1 (.slice av m cv) m (E.map Value.string) from by have := HE0.out; rw [HEL.out] at this; exact this) 0 HN0.out
        clear hb ho4 ht4 hc4 hD
        have HTX4 := Lib.hid (HTX3.out.below HX4.out)
        have kw : IntKind.i64.wrap (((k : Nat) : Int) + 1) = ((k : Nat) : Int) + 1 := IntWalk.i64_in _ (by omega)
        have sl := run_oneI gv m cv k kb HCV.out
        go_wp2_with fail
        clear kw sl
        have HPR : Hid (PrIn [((k : Nat) : Int)] [tth E k] D (some ⟨x4.heap.size, 0, none⟩) (some ⟨gv, k, none⟩) a4 c4 (x4.alloc (.cells #[.int .u64 (k : Nat)] 23))) := Lib.hid
          { p := fun i hi => ⟨_, 0, rfl, by
              have hi : i < 1 := hi
              obtain rfl : i = 0 := by omega
              rw [block_cell (heap_alloc_new _ _)]; rfl⟩
            e := txts_one (HTX4.out.below (balloc (Below.refl _ _) _)) (by rw [HEL.out]; exact kb)
            d := HD4.out.below (balloc (Below.refl _ _) _)
            pl := by show 1 ≤ 100; decide
            pu := one_u64 (by omega : m ≤ 65536) kb
            el := by show 1 ≤ 1000000; decide
            dl := by rw [← HD.out, oneD_len (by rw [HEL.out]; omega)]; have := depN_le (els := E) (by rw [HEL.out]; omega); omega
            dc_ := HC4.out
            ez := fun i hi => by
              have hi : i < 1 := hi
              obtain rfl : i = 0 := by omega
              exact Nat.le_trans (HES.out k (by rw [HEL.out]; exact kb)) (by decide) }
        refine (pcheck_any R (m : Nat) [((k : Nat) : Int)] [tth E k] D _ _ a4 1 (cv - k) c4 _ HPR.out (by omega) (by omega)).mono ?_
        rintro e x5 ⟨rfl, hb⟩
        have z9 : checkE R (m : Nat) [((k : Nat) : Int)] [tth E k] D = 0 := by
          have h9 := one_check (els := E) (k := k) (by rw [HEL.out]; omega) (by rw [HEL.out]; exact kb)
          rw [HR9.out, HD.out, HEL.out] at h9
          exact h9
        rw [z9]
        have HX5 : Hid (Below x3.heap.size x3 x5) := Lib.hid (bnext HX4.out (bnext (balloc (Below.refl _ _) _) hb))
        clear hb z9 k1
        have HO5 := Lib.hid (HO3.out.below HX5.out)
        have HT5 := Lib.hid (HT3.out.below HX5.out)
        have HTB5 := Lib.hid ((HX5.out.block _ (lt_of_block HTB3.out)).trans HTB3.out)
        have E0 : Hid ((x5.alloc (.cells #[] 33)).ownsRow x5.heap.size 33 4 (.slice (some ⟨x5.heap.size, 0, none⟩) 0 0) 0 []) := Lib.hid (World.ownsRow_lit x5 #[] 0 (Nat.le_refl _) (Nat.zero_le _) rfl)
        have HG5 : Hid (Hdrs (x5.alloc (.cells #[] 33)) (some ⟨g, 0, none⟩) L) := Lib.hid (HO5.out.hdrs.below (balloc (Below.refl _ _) _))
        go_wp2_with (at_builtin; refine wpList_append_hdrs rfl _ _ rfl x5.heap.size _ L ⟨g, 0, none⟩ c rfl E0.out (by rw [HLM.out]; rfl) HG5.out (by rw [HLM.out]; omega) (by simp) ?_)
        intro v6 x6 hown hgrow
        have HX6 : Hid (Below x5.heap.size x5 x6) := Lib.hid (grownBy_below (balloc (Below.refl _ _) _) hgrow (fun k hk => by simp [Value.ownBlock] at hk; omega))
        have HOW6 : Hid (x6.ownsRow x5.heap.size 33 4 v6 (len L) (L.flatMap Hdr.cells)) := Lib.hid hown
        clear hown hgrow E0 HG5
        rcases ownH_of HOW6.out with ⟨_, hnil⟩ | ⟨g6, c6, rfl, ho6⟩
        · exact absurd HLM.out (by rw [hnil]; show ¬ 0 = m; omega)
        have HO6 := Lib.hid ho6
        have HB6 := Lib.hid (HO5.out.below HX6.out)
        have HTB6 := Lib.hid ((HX6.out.block _ (lt_of_block HTB5.out)).trans HTB5.out)
        have HT6 := Lib.hid (HT5.out.below HX6.out)
        rw [HLM.out]
        clear ho6
        have HKL : Hid (k < len L) := Lib.hid (by rw [HLM.out]; exact kb)
        obtain ⟨q, hq⟩ : ∃ q, hnth L k = q := ⟨_, rfl⟩
        have HQ := Lib.hid hq
        have HQO := Lib.hid (HKK.out k)
        have HQK := Lib.hid (HCR.out.k k HKL.out)
        have HO6q := Lib.hid (HO6.out.self HKL.out)
        rw [hq] at HQO HQK HO6q
        have HQS : Hid (q.prev.size = 32 ∧ q.seed.size = 32 ∧ q.txns.size = 32) := Lib.hid (by
          have h := HQK.out
          rw [hOk_eq] at h
          simpa [and_assoc] using h)
        have ct : ∀ o, x6.cell? ⟨tb, o, none⟩ = _ := block_cell HTB6.out
        clear hq
        go_wp2_with fail
        refine (dig23L_any ttx x6 HXX.out).mono ?_
        rintro e x7 ⟨rfl, hb⟩
        obtain ⟨DT, hDT⟩ : ∃ DT, digT ttx = DT := ⟨_, rfl⟩
        have HDT : Hid (DT.size = 32) := Lib.hid (by rw [← hDT]; exact digT_size _)
        have HX7 : Hid (Below x5.heap.size x5 x7) := Lib.hid (bnext HX6.out hb)
        have HO7 := Lib.hid (HO6q.out.below hb)
        have HTB7 := Lib.hid ((hb.block _ (lt_of_block HTB6.out)).trans HTB6.out)
        rw [hDT]
        clear hb ct
        obtain ⟨e0, e1, e2, e3, fz⟩ := HO7.out.cell HKL.out
        go_upto_region 34 with fail
        clear e0 e1 e2 e3 fz
        obtain ⟨W8, hW⟩ : ∃ W, x7.setCell ⟨g6, k * 4 + 2, none⟩ (.string DT) = W := ⟨_, rfl⟩
        have HO8 : Hid (OwnH x5.heap.size g6 c6 (L.set k ⟨q.rnd, q.prev, DT, q.seed⟩) W8) := Lib.hid (by rw [← hW]; exact HO7.out.put (j := 2) HKL.out (by decide) rfl)
        have HX8 : Hid (Below x5.heap.size x5 W8) := Lib.hid (by rw [← hW]; exact bset HX7.out HO7.out.lt.1 _)
        have HTB8 := Lib.hid ((HX8.out.block _ (lt_of_block HTB5.out)).trans HTB5.out)
        rw [hW]
        clear hW
        have ct : ∀ o, W8.cell? ⟨tb, o, none⟩ = _ := block_cell HTB8.out
        have HTL : Hid (Calls Tryz.prog 26 #[.string ttx] W8 fun e w' => e = .returned (.string DT) ∧ Below W8.heap.size W8 w') := Lib.hid (by rw [← hDT]; exact dig23L_any ttx W8 HXX.out)
        clear hDT
        cases tpv with
        | true =>
          go_wp2_with fail
          refine HTL.out.mono ?_
          rintro e x9 ⟨rfl, hb⟩
          have HO9 := Lib.hid (HO8.out.below hb)
          have HX9 : Hid (Below x5.heap.size x5 x9) := Lib.hid (bnext HX8.out hb)
          clear hb ct
          obtain ⟨e0, e1, e2, e3, fz⟩ := HO9.out.cell HKL.out
          go_upto_region 36 with fail
          clear e0 e1 e2 e3 fz
          obtain ⟨WA, hW⟩ : ∃ W, x9.setCell ⟨g6, k * 4 + 1, none⟩ (.string DT) = W := ⟨_, rfl⟩
          have HOA : Hid (OwnH x5.heap.size g6 c6 (L.set k ⟨q.rnd, DT, DT, q.seed⟩) WA) := Lib.hid (by rw [← hW]; exact HO9.out.put (j := 1) HKL.out (by decide) rfl)
          have HXA : Hid (Below x5.heap.size x5 WA) := Lib.hid (by rw [← hW]; exact bset HX9.out HO9.out.lt.1 _)
          rw [hW]
          clear hW
          obtain ⟨v9, hv9⟩ : ∃ v, DT = v := ⟨_, rfl⟩
          have HV9 : Hid (v9.size = 32) := Lib.hid (by rw [← hv9]; exact HDT.out)
          rw [show (⟨q.rnd, DT, DT, q.seed⟩ : Hdr) = ⟨q.rnd, v9, DT, q.seed⟩ by rw [← hv9]] at HOA
          clear hv9
          have HR9' : Hid ((⟨q.rnd, v9, DT, q.seed⟩ : Hdr).Ok) := Lib.hid ⟨HQO.out.r0, by show v9.size ≤ _; rw [HV9.out]; decide, by show DT.size ≤ _; rw [HDT.out]; decide, HQO.out.s1⟩
          have HK9 : Hid (hOk ⟨q.rnd, v9, DT, q.seed⟩ = true) := Lib.hid (by
            rw [hOk_eq]
            show (decide (v9.size = 32) && decide (q.seed.size = 32) && decide (DT.size = 32)) = true
            rw [HV9.out, HQS.out.2.1, HDT.out]; rfl)
          have HTA := Lib.hid (HT5.out.below HXA.out)
          obtain ⟨e0, e1, e2, e3, fz⟩ := HOA.out.cell HKL.out
          go_wp2_with fail
          refine (hdig_any B ⟨q.rnd, v9, DT, q.seed⟩ WA HTA.out HR9'.out).mono ?_
          rintro e XB ⟨rfl, hb⟩
          have y1 : dgS ⟨q.rnd, v9, DT, q.seed⟩ = hdg ⟨q.rnd, v9, DT, q.seed⟩ := if_pos HK9.out
          have y2 : dgE ⟨q.rnd, v9, DT, q.seed⟩ = 0 := if_pos HK9.out
          rw [y1, y2]
          have HXB : Hid (Below x5.heap.size x5 XB) := Lib.hid (bnext HXA.out hb)
          have HOB := Lib.hid (HOA.out.below hb)
          clear hb y1 y2 e0 e1 e2 e3 fz
          have HLT : Hid (linkedH (L.set k ⟨q.rnd, v9, DT, q.seed⟩) = ((decide (k = 0) || decide (v9 = q.prev)) && (decide (k + 1 = m) || decide ((hnth L (k + 1)).prev = hdg ⟨q.rnd, v9, DT, q.seed⟩)))) := Lib.hid (by
            have h := HCR.out.turned (by rw [HLM.out]; exact nn) HKL.out (q := ⟨q.rnd, v9, DT, q.seed⟩) (by rw [HQ.out]) HK9.out
            rw [HQ.out, HLM.out] at h
            exact h)
          obtain ⟨DG, hDG⟩ : ∃ DG, hdg ⟨q.rnd, v9, DT, q.seed⟩ = DG := ⟨_, rfl⟩
          rw [hDG] at HLT ⊢
          clear hDG
          go_upto_region 37 with fail
          have HO5B := Lib.hid (HO5.out.below HXB.out)
          have HDGL : Hid (DG.size ≤ 1000000 → True) := Lib.hid (fun _ => trivial)
          by_cases k9 : k = 0
          · have HYA : Hid ((decide (k = 0) || decide (v9 = q.prev)) = true) := Lib.hid (by rw [decide_eq_true k9]; rfl)
            have kz : ((k : Nat) : Int) = 0 := by omega
            refine wp_region_all 1000 (none) (phis [fun u _ => u = (.int .i64 (k : Nat)), fun u _ => u = (.bool true), fun u _ => u = (.bool true), fun u _ => u = undef, fun u _ => u = undef, fun u _ => u = undef, fun u _ => u = undef, fun u _ => u = undef, fun u _ => u = undef, fun u _ => u = undef, fun u _ => u = undef, fun u _ => u = undef, fun u _ => u = undef, fun u _ => u = undef, fun u _ => u = (.bool true), fun u _ => u = (.bool true)]) rfl (by kernel_rfl) (mono_of ⟨mono_eq, mono_eq, mono_eq, mono_eq, mono_eq, mono_eq, mono_eq, mono_eq, mono_eq, mono_eq, mono_eq, mono_eq, mono_eq, mono_eq, mono_eq, mono_eq, trivial⟩) (steps_of 16 ⟨?s0, ?s1, ?s2, ?s3, ?s4, ?s5, ?s6, ?s7, ?s8, ?s9, ?s10, ?s11, ?s12, ?s13, ?s14, ?s15, trivial⟩) ?_
            case s0 =>
              refine step_val (v := (.int .i64 (k : Nat))) (fun av wv hE hS hO hD => ?_) (fun _ => rfl)
              have h18 : av.eval (.tmp 18) = (.int .i64 (k : Nat)) := hO.2.2 18 rfl
              have f18 := (ev_form av 18).symm.trans h18
              refine ⟨rfl, ?_⟩
              simp [go_sem, f18, k9]
            case s1 =>
              refine step_val (v := (.bool true)) (fun av wv hE hS hO hD => ?_) (fun _ => rfl)
              have d215 : av.eval (.tmp 215) = (.int .i64 (k : Nat)) := hD.1 rfl _ rfl
              have f215 := (ev_form av 215).symm.trans d215
              refine ⟨rfl, ?_⟩
              simp [go_sem, f215, k9]
            case s2 =>
              refine step_val (v := (.bool true)) (fun av wv hE hS hO hD => ?_) (fun _ => rfl)
              have d216 : av.eval (.tmp 216) = (.bool true) := hD.1 rfl _ rfl
              have f216 := (ev_form av 216).symm.trans d216
              refine ⟨rfl, ?_⟩
              simp [go_sem, f216, k9]
            case s3 =>
              refine step_skip (fun av wv hE hS hO hD => ?_) (fun _ => rfl)
              have h21 : av.eval (.tmp 21) = (.slice (some ⟨g6, 0, none⟩) m c6) := hO.2.2 21 rfl
              have f21 := (ev_form av 21).symm.trans h21
              have d217 : av.eval (.tmp 217) = (.bool true) := hD.1 rfl _ rfl
              have f217 := (ev_form av 217).symm.trans d217
              exact (wanted_of (d := 217) (b := true) (want := false) rfl rfl rfl d217)
            case s4 =>
              refine step_skip (fun av wv hE hS hO hD => ?_) (fun _ => rfl)
              have h18 : av.eval (.tmp 18) = (.int .i64 (k : Nat)) := hO.2.2 18 rfl
              have f18 := (ev_form av 18).symm.trans h18
              have d217 : av.eval (.tmp 217) = (.bool true) := hD.1 rfl _ rfl
              have f217 := (ev_form av 217).symm.trans d217
              exact (wanted_of (d := 217) (b := true) (want := false) rfl rfl rfl d217)
            case s5 =>
              refine step_skip (fun av wv hE hS hO hD => ?_) (fun _ => rfl)
              have d218 : av.eval (.tmp 218) = (undef) := hD.1 rfl _ rfl
              have f218 := (ev_form av 218).symm.trans d218
              have d219 : av.eval (.tmp 219) = (undef) := hD.2.1 rfl _ rfl
              have f219 := (ev_form av 219).symm.trans d219
              have d217 : av.eval (.tmp 217) = (.bool true) := hD.2.2.1 rfl _ rfl
              have f217 := (ev_form av 217).symm.trans d217
              exact (wanted_of (d := 217) (b := true) (want := false) rfl rfl rfl d217)
            case s6 =>
              refine step_skip (fun av wv hE hS hO hD => ?_) (fun _ => rfl)
              have d220 : av.eval (.tmp 220) = (undef) := hD.1 rfl _ rfl
              have f220 := (ev_form av 220).symm.trans d220
              have d217 : av.eval (.tmp 217) = (.bool true) := hD.2.1 rfl _ rfl
              have f217 := (ev_form av 217).symm.trans d217
              exact (wanted_of (d := 217) (b := true) (want := false) rfl rfl rfl d217)
            case s7 =>
              refine step_skip (fun av wv hE hS hO hD => ?_) (fun _ => rfl)
              have d221 : av.eval (.tmp 221) = (undef) := hD.1 rfl _ rfl
              have f221 := (ev_form av 221).symm.trans d221
              have d217 : av.eval (.tmp 217) = (.bool true) := hD.2.1 rfl _ rfl
              have f217 := (ev_form av 217).symm.trans d217
              exact (wanted_of (d := 217) (b := true) (want := false) rfl rfl rfl d217)
            case s8 =>
              refine step_skip (fun av wv hE hS hO hD => ?_) (fun _ => rfl)
              have h0 : av.eval (.tmp 0) = (.slice (some ⟨g, 0, none⟩) m c) := hO.2.2 0 rfl
              have f0 := (ev_form av 0).symm.trans h0
              have d217 : av.eval (.tmp 217) = (.bool true) := hD.1 rfl _ rfl
              have f217 := (ev_form av 217).symm.trans d217
              exact (wanted_of (d := 217) (b := true) (want := false) rfl rfl rfl d217)
            case s9 =>
              refine step_skip (fun av wv hE hS hO hD => ?_) (fun _ => rfl)
              have h18 : av.eval (.tmp 18) = (.int .i64 (k : Nat)) := hO.2.2 18 rfl
              have f18 := (ev_form av 18).symm.trans h18
              have d217 : av.eval (.tmp 217) = (.bool true) := hD.1 rfl _ rfl
              have f217 := (ev_form av 217).symm.trans d217
              exact (wanted_of (d := 217) (b := true) (want := false) rfl rfl rfl d217)
            case s10 =>
              refine step_skip (fun av wv hE hS hO hD => ?_) (fun _ => rfl)
              have d223 : av.eval (.tmp 223) = (undef) := hD.1 rfl _ rfl
              have f223 := (ev_form av 223).symm.trans d223
              have d224 : av.eval (.tmp 224) = (undef) := hD.2.1 rfl _ rfl
              have f224 := (ev_form av 224).symm.trans d224
              have d217 : av.eval (.tmp 217) = (.bool true) := hD.2.2.1 rfl _ rfl
              have f217 := (ev_form av 217).symm.trans d217
              exact (wanted_of (d := 217) (b := true) (want := false) rfl rfl rfl d217)
            case s11 =>
              refine step_skip (fun av wv hE hS hO hD => ?_) (fun _ => rfl)
              have d225 : av.eval (.tmp 225) = (undef) := hD.1 rfl _ rfl
              have f225 := (ev_form av 225).symm.trans d225
              have d217 : av.eval (.tmp 217) = (.bool true) := hD.2.1 rfl _ rfl
              have f217 := (ev_form av 217).symm.trans d217
              exact (wanted_of (d := 217) (b := true) (want := false) rfl rfl rfl d217)
            case s12 =>
              refine step_skip (fun av wv hE hS hO hD => ?_) (fun _ => rfl)
              have d226 : av.eval (.tmp 226) = (undef) := hD.1 rfl _ rfl
              have f226 := (ev_form av 226).symm.trans d226
              have d217 : av.eval (.tmp 217) = (.bool true) := hD.2.1 rfl _ rfl
              have f217 := (ev_form av 217).symm.trans d217
              exact (wanted_of (d := 217) (b := true) (want := false) rfl rfl rfl d217)
            case s13 =>
              refine step_skip (fun av wv hE hS hO hD => ?_) (fun _ => rfl)
              have d222 : av.eval (.tmp 222) = (undef) := hD.1 rfl _ rfl
              have f222 := (ev_form av 222).symm.trans d222
              have d227 : av.eval (.tmp 227) = (undef) := hD.2.1 rfl _ rfl
              have f227 := (ev_form av 227).symm.trans d227
              have d217 : av.eval (.tmp 217) = (.bool true) := hD.2.2.1 rfl _ rfl
              have f217 := (ev_form av 217).symm.trans d217
              exact (wanted_of (d := 217) (b := true) (want := false) rfl rfl rfl d217)
            case s14 =>
              refine step_val (v := (.bool true)) (fun av wv hE hS hO hD => ?_) (fun _ => rfl)
              have d217 : av.eval (.tmp 217) = (.bool true) := hD.1 rfl _ rfl
              have f217 := (ev_form av 217).symm.trans d217
              have d228 : av.eval (.tmp 228) = (undef) := hD.2.1 rfl _ rfl
              have f228 := (ev_form av 228).symm.trans d228
              refine ⟨rfl, ?_⟩
              simp [go_sem, f217, f228, k9]
            case s15 =>
              refine step_val (v := (.bool true)) (fun av wv hE hS hO hD => ?_) (fun _ => rfl)
              have d229 : av.eval (.tmp 229) = (.bool true) := hD.1 rfl _ rfl
              have f229 := (ev_form av 229).symm.trans d229
              refine ⟨rfl, ?_⟩
              simp [go_sem, f229, k9]
            intro a' w' hE hO hall
            have hA := act_of_outer (ds := [215, 216, 217, 218, 219, 220, 221, 222, 223, 224, 225, 226, 227, 228, 229, 24]) rfl hO (by kernel_rfl)
            have e215 : (fun u _ => u = (.int .i64 (k : Nat))) (a'.eval (.tmp 215)) w' := hall.1 _ rfl
            have e216 : (fun u _ => u = (.bool true)) (a'.eval (.tmp 216)) w' := hall.2.1 _ rfl
            have e217 : (fun u _ => u = (.bool true)) (a'.eval (.tmp 217)) w' := hall.2.2.1 _ rfl
            have e218 : (fun u _ => u = undef) (a'.eval (.tmp 218)) w' := hall.2.2.2.1 _ rfl
            have e219 : (fun u _ => u = undef) (a'.eval (.tmp 219)) w' := hall.2.2.2.2.1 _ rfl
            have e220 : (fun u _ => u = undef) (a'.eval (.tmp 220)) w' := hall.2.2.2.2.2.1 _ rfl
            have e221 : (fun u _ => u = undef) (a'.eval (.tmp 221)) w' := hall.2.2.2.2.2.2.1 _ rfl
            have e222 : (fun u _ => u = undef) (a'.eval (.tmp 222)) w' := hall.2.2.2.2.2.2.2.1 _ rfl
            have e223 : (fun u _ => u = undef) (a'.eval (.tmp 223)) w' := hall.2.2.2.2.2.2.2.2.1 _ rfl
            have e224 : (fun u _ => u = undef) (a'.eval (.tmp 224)) w' := hall.2.2.2.2.2.2.2.2.2.1 _ rfl
            have e225 : (fun u _ => u = undef) (a'.eval (.tmp 225)) w' := hall.2.2.2.2.2.2.2.2.2.2.1 _ rfl
            have e226 : (fun u _ => u = undef) (a'.eval (.tmp 226)) w' := hall.2.2.2.2.2.2.2.2.2.2.2.1 _ rfl
            have e227 : (fun u _ => u = undef) (a'.eval (.tmp 227)) w' := hall.2.2.2.2.2.2.2.2.2.2.2.2.1 _ rfl
            have e228 : (fun u _ => u = undef) (a'.eval (.tmp 228)) w' := hall.2.2.2.2.2.2.2.2.2.2.2.2.2.1 _ rfl
            have e229 : (fun u _ => u = (.bool true)) (a'.eval (.tmp 229)) w' := hall.2.2.2.2.2.2.2.2.2.2.2.2.2.2.1 _ rfl
            have e24 : (fun u _ => u = (.bool true)) (a'.eval (.tmp 24)) w' := hall.2.2.2.2.2.2.2.2.2.2.2.2.2.2.2.1 _ rfl
            simp only [List.foldl_cons, List.foldl_nil, Act.put, List.setIfInBounds_toArray, List.set_cons_succ, List.set_cons_zero, e215, e216, e217, e218, e219, e220, e221, e222, e223, e224, e225, e226, e227, e228, e229, e24] at hA
            clear hO hall e215 e216 e217 e218 e219 e220 e221 e222 e223 e224 e225 e226 e227 e228 e229 e24
            subst hA
            have HXC : Hid (Below x5.heap.size x5 w') := Lib.hid (bnext HXB.out (of_drew hE))
            have HOC := Lib.hid (HOB.out.below (of_drew hE))
            clear hE k9 kz
            have HO5C := Lib.hid (((HO5.out.below HXC.out)))
            have HTC := Lib.hid (HT5.out.below HXC.out)
            have kw : IntKind.i64.wrap (((k : Nat) : Int) + 1) = ((k : Nat) : Int) + 1 := IntWalk.i64_in _ (by omega)
            by_cases kl : k + 1 = m
            · have HYB : Hid ((decide (k + 1 = m) || decide ((hnth L (k + 1)).prev = DG)) = true) := Lib.hid (by rw [decide_eq_true kl]; rfl)
              have z1 : ((k : Nat) : Int) + 1 = ((m : Nat) : Int) := by omega
              clear kl
              go_wp2_with fail
              refine (show Calls Tryz.prog 19 #[.slice (some ⟨g6, 0, none⟩) m c6] w' (fun e w'' => e = .returned (.bool (true && true)) ∧ Below w'.heap.size w' w'') from by
                have := hlinked_any B (L.set k ⟨q.rnd, v9, DT, q.seed⟩) (some ⟨g6, 0, none⟩) c6 w' HTC.out HOC.out.hdrs (ok_set HKK.out HKL.out HR9'.out) (by rw [hset_len, HLM.out]; omega)
                rw [hset_len, HLM.out, HLT.out, HYA.out, HYB.out] at this
                exact this).mono ?_
              rintro e XD ⟨rfl, hb⟩
              go_wp2
              go_ret
              exact ⟨rfl, bnext HB1.out (bnext HB0.out (bnext HX3.out (bnext HX5.out (bnext HXC.out hb))))⟩
            · obtain ⟨f0, f1, f2, f3, fz⟩ := HO5C.out.at (i := k + 1) (by rw [HLM.out]; omega)
              obtain ⟨v1, hv1⟩ : ∃ v, (hnth L (k + 1)).prev = v := ⟨_, rfl⟩
              rw [hv1] at f1
              obtain ⟨y2, hy2⟩ : ∃ y, (DG.toList == v1.toList) = y := ⟨_, rfl⟩
              have HYB : Hid ((decide (k + 1 = m) || decide ((hnth L (k + 1)).prev = DG)) = y2) := Lib.hid (by
                rw [decide_eq_false kl, Bool.false_or, hv1, ← hy2, str_beq]
                by_cases e : v1 = DG
                · rw [decide_eq_true e, decide_eq_true e.symm]
                · rw [decide_eq_false e, decide_eq_false (fun h => e h.symm)])
              have z1 : ¬ ((k : Nat) : Int) + 1 = ((m : Nat) : Int) := by omega
              have z2 : k + 1 < m := by omega
              have z3 : ((k : Nat) : Int) + 1 < m := by omega
              have z4 : (((k : Nat) : Int) + 1).toNat = k + 1 := by omega
              have z5 : 0 ≤ ((k : Nat) : Int) + 1 := by omega
              clear f0 f2 f3 fz hv1 kl
              cases y2
              · go_wp2_with fail
                refine (show Calls Tryz.prog 19 #[.slice (some ⟨g6, 0, none⟩) m c6] w' (fun e w'' => e = .returned (.bool (true && false)) ∧ Below w'.heap.size w' w'') from by
                  have := hlinked_any B (L.set k ⟨q.rnd, v9, DT, q.seed⟩) (some ⟨g6, 0, none⟩) c6 w' HTC.out HOC.out.hdrs (ok_set HKK.out HKL.out HR9'.out) (by rw [hset_len, HLM.out]; omega)
                  rw [hset_len, HLM.out, HLT.out, HYA.out, HYB.out] at this
                  exact this).mono ?_
                rintro e XD ⟨rfl, hb⟩
                go_wp2
                go_ret
                exact ⟨(show Ending.returned (.bool (!(((k : Nat) : Int) + 1 == ((m : Nat) : Int)))) = Ending.returned (.bool true) from by rw [beq_eq_false_iff_ne.2 z1]; rfl), bnext HB1.out (bnext HB0.out (bnext HX3.out (bnext HX5.out (bnext HXC.out hb))))⟩
              · go_wp2_with fail
                refine (show Calls Tryz.prog 19 #[.slice (some ⟨g6, 0, none⟩) m c6] w' (fun e w'' => e = .returned (.bool (true && true)) ∧ Below w'.heap.size w' w'') from by
                  have := hlinked_any B (L.set k ⟨q.rnd, v9, DT, q.seed⟩) (some ⟨g6, 0, none⟩) c6 w' HTC.out HOC.out.hdrs (ok_set HKK.out HKL.out HR9'.out) (by rw [hset_len, HLM.out]; omega)
                  rw [hset_len, HLM.out, HLT.out, HYA.out, HYB.out] at this
                  exact this).mono ?_
                rintro e XD ⟨rfl, hb⟩
                go_wp2
                go_ret
                exact ⟨rfl, bnext HB1.out (bnext HB0.out (bnext HX3.out (bnext HX5.out (bnext HXC.out hb))))⟩
          · obtain ⟨f0, f1, f2, f3, fz⟩ := HO5B.out.at HKL.out
            rw [HQ.out] at f1
            obtain ⟨d0, d1, d2, d3, dz⟩ := HOB.out.cell HKL.out
            obtain ⟨v0, hv0⟩ : ∃ v, q.prev = v := ⟨_, rfl⟩
            rw [hv0] at f1
            have p1 : XB.cell? ⟨g6, k * 4 + 1, none⟩ = some (.string v9) := d1
            have q1 : XB.cell? ⟨g, k * 4 + 1, none⟩ = some (.string v0) := f1
            obtain ⟨y, hy⟩ : ∃ y, (v9.toList == v0.toList) = y := ⟨_, rfl⟩
            have HYA : Hid ((decide (k = 0) || decide (v9 = q.prev)) = y) := Lib.hid (by rw [decide_eq_false k9, Bool.false_or, hv0, ← hy, str_beq])
            have k0 : k < m := kb
            have k1 : ((k : Nat) : Int) < m := by omega
            have k2 : ¬ k = 0 := k9
            clear f0 f1 f2 f3 fz d0 d1 d2 d3 dz hv0 k9
            refine wp_region_all 1000 (none) (phis [fun u _ => u = (.int .i64 (k : Nat)), fun u _ => u = (.bool false), fun u _ => u = (.bool false), fun u _ => u = (.slice (some ⟨g6, 0, none⟩) m c6), fun u _ => u = (.int .i64 (k : Nat)), fun u _ => u = (.pointer (some ⟨g6, k * 4, none⟩)), fun u _ => u = (.pointer (some ⟨g6, k * 4 + 1, none⟩)), fun u _ => u = (.string v9), fun u _ => u = (.slice (some ⟨g, 0, none⟩) m c), fun u _ => u = (.int .i64 (k : Nat)), fun u _ => u = (.pointer (some ⟨g, k * 4, none⟩)), fun u _ => u = (.pointer (some ⟨g, k * 4 + 1, none⟩)), fun u _ => u = (.string v0), fun u _ => u = (.bool y), fun u _ => u = (.bool y), fun u _ => u = (.bool y)]) rfl (by kernel_rfl) (mono_of ⟨mono_eq, mono_eq, mono_eq, mono_eq, mono_eq, mono_eq, mono_eq, mono_eq, mono_eq, mono_eq, mono_eq, mono_eq, mono_eq, mono_eq, mono_eq, mono_eq, trivial⟩) (steps_of 16 ⟨?s0, ?s1, ?s2, ?s3, ?s4, ?s5, ?s6, ?s7, ?s8, ?s9, ?s10, ?s11, ?s12, ?s13, ?s14, ?s15, trivial⟩) ?_
            case s0 =>
              refine step_val (v := (.int .i64 (k : Nat))) (fun av wv hE hS hO hD => ?_) (fun _ => rfl)
              have h18 : av.eval (.tmp 18) = (.int .i64 (k : Nat)) := hO.2.2 18 rfl
              have f18 := (ev_form av 18).symm.trans h18
              refine ⟨rfl, ?_⟩
              simp [go_sem, f18, k0, k1, k2, hy]
            case s1 =>
              refine step_val (v := (.bool false)) (fun av wv hE hS hO hD => ?_) (fun _ => rfl)
              have d215 : av.eval (.tmp 215) = (.int .i64 (k : Nat)) := hD.1 rfl _ rfl
              have f215 := (ev_form av 215).symm.trans d215
              refine ⟨rfl, ?_⟩
              simp [go_sem, f215, k0, k1, k2, hy]
            case s2 =>
              refine step_val (v := (.bool false)) (fun av wv hE hS hO hD => ?_) (fun _ => rfl)
              have d216 : av.eval (.tmp 216) = (.bool false) := hD.1 rfl _ rfl
              have f216 := (ev_form av 216).symm.trans d216
              refine ⟨rfl, ?_⟩
              simp [go_sem, f216, k0, k1, k2, hy]
            case s3 =>
              refine step_val (v := (.slice (some ⟨g6, 0, none⟩) m c6)) (fun av wv hE hS hO hD => ?_) (fun _ => rfl)
              have h21 : av.eval (.tmp 21) = (.slice (some ⟨g6, 0, none⟩) m c6) := hO.2.2 21 rfl
              have f21 := (ev_form av 21).symm.trans h21
              have d217 : av.eval (.tmp 217) = (.bool false) := hD.1 rfl _ rfl
              have f217 := (ev_form av 217).symm.trans d217
              refine ⟨(wanted_of (d := 217) (b := false) (want := false) rfl rfl rfl d217), ?_⟩
              simp [go_sem, f21, f217, k0, k1, k2, hy]
            case s4 =>
              refine step_val (v := (.int .i64 (k : Nat))) (fun av wv hE hS hO hD => ?_) (fun _ => rfl)
              have h18 : av.eval (.tmp 18) = (.int .i64 (k : Nat)) := hO.2.2 18 rfl
              have f18 := (ev_form av 18).symm.trans h18
              have d217 : av.eval (.tmp 217) = (.bool false) := hD.1 rfl _ rfl
              have f217 := (ev_form av 217).symm.trans d217
              refine ⟨(wanted_of (d := 217) (b := false) (want := false) rfl rfl rfl d217), ?_⟩
              simp [go_sem, f18, f217, k0, k1, k2, hy]
            case s5 =>
              refine step_val (v := (.pointer (some ⟨g6, k * 4, none⟩))) (fun av wv hE hS hO hD => ?_) (fun _ => rfl)
              have d218 : av.eval (.tmp 218) = (.slice (some ⟨g6, 0, none⟩) m c6) := hD.1 rfl _ rfl
              have f218 := (ev_form av 218).symm.trans d218
              have d219 : av.eval (.tmp 219) = (.int .i64 (k : Nat)) := hD.2.1 rfl _ rfl
              have f219 := (ev_form av 219).symm.trans d219
              have d217 : av.eval (.tmp 217) = (.bool false) := hD.2.2.1 rfl _ rfl
              have f217 := (ev_form av 217).symm.trans d217
              refine ⟨(wanted_of (d := 217) (b := false) (want := false) rfl rfl rfl d217), ?_⟩
              simp [go_sem, f218, f219, f217, k0, k1, k2, hy]
            case s6 =>
              refine step_val (v := (.pointer (some ⟨g6, k * 4 + 1, none⟩))) (fun av wv hE hS hO hD => ?_) (fun _ => rfl)
              have d220 : av.eval (.tmp 220) = (.pointer (some ⟨g6, k * 4, none⟩)) := hD.1 rfl _ rfl
              have f220 := (ev_form av 220).symm.trans d220
              have d217 : av.eval (.tmp 217) = (.bool false) := hD.2.1 rfl _ rfl
              have f217 := (ev_form av 217).symm.trans d217
              refine ⟨(wanted_of (d := 217) (b := false) (want := false) rfl rfl rfl d217), ?_⟩
              simp [go_sem, f220, f217, k0, k1, k2, hy]
            case s7 =>
              refine step_val (v := (.string v9)) (fun av wv hE hS hO hD => ?_) (fun _ => rfl)
              have d221 : av.eval (.tmp 221) = (.pointer (some ⟨g6, k * 4 + 1, none⟩)) := hD.1 rfl _ rfl
              have f221 := (ev_form av 221).symm.trans d221
              have d217 : av.eval (.tmp 217) = (.bool false) := hD.2.1 rfl _ rfl
              have f217 := (ev_form av 217).symm.trans d217
              have p1 := extB_cell hE (by simp) p1
              have q1 := extB_cell hE (by simp) q1
              refine ⟨(wanted_of (d := 217) (b := false) (want := false) rfl rfl rfl d217), ?_⟩
              simp [go_sem, f221, f217, p1, q1, k0, k1, k2, hy]
            case s8 =>
              refine step_val (v := (.slice (some ⟨g, 0, none⟩) m c)) (fun av wv hE hS hO hD => ?_) (fun _ => rfl)
              have h0 : av.eval (.tmp 0) = (.slice (some ⟨g, 0, none⟩) m c) := hO.2.2 0 rfl
              have f0 := (ev_form av 0).symm.trans h0
              have d217 : av.eval (.tmp 217) = (.bool false) := hD.1 rfl _ rfl
              have f217 := (ev_form av 217).symm.trans d217
              refine ⟨(wanted_of (d := 217) (b := false) (want := false) rfl rfl rfl d217), ?_⟩
              simp [go_sem, f0, f217, k0, k1, k2, hy]
            case s9 =>
              refine step_val (v := (.int .i64 (k : Nat))) (fun av wv hE hS hO hD => ?_) (fun _ => rfl)
              have h18 : av.eval (.tmp 18) = (.int .i64 (k : Nat)) := hO.2.2 18 rfl
              have f18 := (ev_form av 18).symm.trans h18
              have d217 : av.eval (.tmp 217) = (.bool false) := hD.1 rfl _ rfl
              have f217 := (ev_form av 217).symm.trans d217
              refine ⟨(wanted_of (d := 217) (b := false) (want := false) rfl rfl rfl d217), ?_⟩
              simp [go_sem, f18, f217, k0, k1, k2, hy]
            case s10 =>
              refine step_val (v := (.pointer (some ⟨g, k * 4, none⟩))) (fun av wv hE hS hO hD => ?_) (fun _ => rfl)
              have d223 : av.eval (.tmp 223) = (.slice (some ⟨g, 0, none⟩) m c) := hD.1 rfl _ rfl
              have f223 := (ev_form av 223).symm.trans d223
              have d224 : av.eval (.tmp 224) = (.int .i64 (k : Nat)) := hD.2.1 rfl _ rfl
              have f224 := (ev_form av 224).symm.trans d224
              have d217 : av.eval (.tmp 217) = (.bool false) := hD.2.2.1 rfl _ rfl
              have f217 := (ev_form av 217).symm.trans d217
              refine ⟨(wanted_of (d := 217) (b := false) (want := false) rfl rfl rfl d217), ?_⟩
              simp [go_sem, f223, f224, f217, k0, k1, k2, hy]
            case s11 =>
              refine step_val (v := (.pointer (some ⟨g, k * 4 + 1, none⟩))) (fun av wv hE hS hO hD => ?_) (fun _ => rfl)
              have d225 : av.eval (.tmp 225) = (.pointer (some ⟨g, k * 4, none⟩)) := hD.1 rfl _ rfl
              have f225 := (ev_form av 225).symm.trans d225
              have d217 : av.eval (.tmp 217) = (.bool false) := hD.2.1 rfl _ rfl
              have f217 := (ev_form av 217).symm.trans d217
              refine ⟨(wanted_of (d := 217) (b := false) (want := false) rfl rfl rfl d217), ?_⟩
              simp [go_sem, f225, f217, k0, k1, k2, hy]
            case s12 =>
              refine step_val (v := (.string v0)) (fun av wv hE hS hO hD => ?_) (fun _ => rfl)
              have d226 : av.eval (.tmp 226) = (.pointer (some ⟨g, k * 4 + 1, none⟩)) := hD.1 rfl _ rfl
              have f226 := (ev_form av 226).symm.trans d226
              have d217 : av.eval (.tmp 217) = (.bool false) := hD.2.1 rfl _ rfl
              have f217 := (ev_form av 217).symm.trans d217
              have p1 := extB_cell hE (by simp) p1
              have q1 := extB_cell hE (by simp) q1
              refine ⟨(wanted_of (d := 217) (b := false) (want := false) rfl rfl rfl d217), ?_⟩
              simp [go_sem, f226, f217, p1, q1, k0, k1, k2, hy]
            case s13 =>
              refine step_val (v := (.bool y)) (fun av wv hE hS hO hD => ?_) (fun _ => rfl)
              have d222 : av.eval (.tmp 222) = (.string v9) := hD.1 rfl _ rfl
              have f222 := (ev_form av 222).symm.trans d222
              have d227 : av.eval (.tmp 227) = (.string v0) := hD.2.1 rfl _ rfl
              have f227 := (ev_form av 227).symm.trans d227
              have d217 : av.eval (.tmp 217) = (.bool false) := hD.2.2.1 rfl _ rfl
              have f217 := (ev_form av 217).symm.trans d217
              refine ⟨(wanted_of (d := 217) (b := false) (want := false) rfl rfl rfl d217), ?_⟩
              simp [go_sem, f222, f227, f217, k0, k1, k2, hy]
            case s14 =>
              refine step_val (v := (.bool y)) (fun av wv hE hS hO hD => ?_) (fun _ => rfl)
              have d217 : av.eval (.tmp 217) = (.bool false) := hD.1 rfl _ rfl
              have f217 := (ev_form av 217).symm.trans d217
              have d228 : av.eval (.tmp 228) = (.bool y) := hD.2.1 rfl _ rfl
              have f228 := (ev_form av 228).symm.trans d228
              refine ⟨rfl, ?_⟩
              simp [go_sem, f217, f228, k0, k1, k2, hy]
            case s15 =>
              refine step_val (v := (.bool y)) (fun av wv hE hS hO hD => ?_) (fun _ => rfl)
              have d229 : av.eval (.tmp 229) = (.bool y) := hD.1 rfl _ rfl
              have f229 := (ev_form av 229).symm.trans d229
              refine ⟨rfl, ?_⟩
              simp [go_sem, f229, k0, k1, k2, hy]
            intro a' w' hE hO hall
            have hA := act_of_outer (ds := [215, 216, 217, 218, 219, 220, 221, 222, 223, 224, 225, 226, 227, 228, 229, 24]) rfl hO (by kernel_rfl)
            have e215 : (fun u _ => u = (.int .i64 (k : Nat))) (a'.eval (.tmp 215)) w' := hall.1 _ rfl
            have e216 : (fun u _ => u = (.bool false)) (a'.eval (.tmp 216)) w' := hall.2.1 _ rfl
            have e217 : (fun u _ => u = (.bool false)) (a'.eval (.tmp 217)) w' := hall.2.2.1 _ rfl
            have e218 : (fun u _ => u = (.slice (some ⟨g6, 0, none⟩) m c6)) (a'.eval (.tmp 218)) w' := hall.2.2.2.1 _ rfl
            have e219 : (fun u _ => u = (.int .i64 (k : Nat))) (a'.eval (.tmp 219)) w' := hall.2.2.2.2.1 _ rfl
            have e220 : (fun u _ => u = (.pointer (some ⟨g6, k * 4, none⟩))) (a'.eval (.tmp 220)) w' := hall.2.2.2.2.2.1 _ rfl
            have e221 : (fun u _ => u = (.pointer (some ⟨g6, k * 4 + 1, none⟩))) (a'.eval (.tmp 221)) w' := hall.2.2.2.2.2.2.1 _ rfl
            have e222 : (fun u _ => u = (.string v9)) (a'.eval (.tmp 222)) w' := hall.2.2.2.2.2.2.2.1 _ rfl
            have e223 : (fun u _ => u = (.slice (some ⟨g, 0, none⟩) m c)) (a'.eval (.tmp 223)) w' := hall.2.2.2.2.2.2.2.2.1 _ rfl
            have e224 : (fun u _ => u = (.int .i64 (k : Nat))) (a'.eval (.tmp 224)) w' := hall.2.2.2.2.2.2.2.2.2.1 _ rfl
            have e225 : (fun u _ => u = (.pointer (some ⟨g, k * 4, none⟩))) (a'.eval (.tmp 225)) w' := hall.2.2.2.2.2.2.2.2.2.2.1 _ rfl
            have e226 : (fun u _ => u = (.pointer (some ⟨g, k * 4 + 1, none⟩))) (a'.eval (.tmp 226)) w' := hall.2.2.2.2.2.2.2.2.2.2.2.1 _ rfl
            have e227 : (fun u _ => u = (.string v0)) (a'.eval (.tmp 227)) w' := hall.2.2.2.2.2.2.2.2.2.2.2.2.1 _ rfl
            have e228 : (fun u _ => u = (.bool y)) (a'.eval (.tmp 228)) w' := hall.2.2.2.2.2.2.2.2.2.2.2.2.2.1 _ rfl
            have e229 : (fun u _ => u = (.bool y)) (a'.eval (.tmp 229)) w' := hall.2.2.2.2.2.2.2.2.2.2.2.2.2.2.1 _ rfl
            have e24 : (fun u _ => u = (.bool y)) (a'.eval (.tmp 24)) w' := hall.2.2.2.2.2.2.2.2.2.2.2.2.2.2.2.1 _ rfl
            simp only [List.foldl_cons, List.foldl_nil, Act.put, List.setIfInBounds_toArray, List.set_cons_succ, List.set_cons_zero, e215, e216, e217, e218, e219, e220, e221, e222, e223, e224, e225, e226, e227, e228, e229, e24] at hA
            clear hO hall e215 e216 e217 e218 e219 e220 e221 e222 e223 e224 e225 e226 e227 e228 e229 e24
            subst hA
            have HXC : Hid (Below x5.heap.size x5 w') := Lib.hid (bnext HXB.out (of_drew hE))
            have HOC := Lib.hid (HOB.out.below (of_drew hE))
            clear hE k0 k1 k2 p1 q1 hy
            cases y
            · have HO5C := Lib.hid (((HO5.out.below HXC.out)))
              have HTC := Lib.hid (HT5.out.below HXC.out)
              have kw : IntKind.i64.wrap (((k : Nat) : Int) + 1) = ((k : Nat) : Int) + 1 := IntWalk.i64_in _ (by omega)
              by_cases kl : k + 1 = m
              · have HYB : Hid ((decide (k + 1 = m) || decide ((hnth L (k + 1)).prev = DG)) = true) := Lib.hid (by rw [decide_eq_true kl]; rfl)
                have z1 : ((k : Nat) : Int) + 1 = ((m : Nat) : Int) := by omega
                clear kl
                go_wp2_with fail
                refine (show Calls Tryz.prog 19 #[.slice (some ⟨g6, 0, none⟩) m c6] w' (fun e w'' => e = .returned (.bool (false && true)) ∧ Below w'.heap.size w' w'') from by
                  have := hlinked_any B (L.set k ⟨q.rnd, v9, DT, q.seed⟩) (some ⟨g6, 0, none⟩) c6 w' HTC.out HOC.out.hdrs (ok_set HKK.out HKL.out HR9'.out) (by rw [hset_len, HLM.out]; omega)
                  rw [hset_len, HLM.out, HLT.out, HYA.out, HYB.out] at this
                  exact this).mono ?_
                rintro e XD ⟨rfl, hb⟩
                go_wp2
                go_ret
                exact ⟨rfl, bnext HB1.out (bnext HB0.out (bnext HX3.out (bnext HX5.out (bnext HXC.out hb))))⟩
              · obtain ⟨f0, f1, f2, f3, fz⟩ := HO5C.out.at (i := k + 1) (by rw [HLM.out]; omega)
                obtain ⟨v1, hv1⟩ : ∃ v, (hnth L (k + 1)).prev = v := ⟨_, rfl⟩
                rw [hv1] at f1
                obtain ⟨y2, hy2⟩ : ∃ y, (DG.toList == v1.toList) = y := ⟨_, rfl⟩
                have HYB : Hid ((decide (k + 1 = m) || decide ((hnth L (k + 1)).prev = DG)) = y2) := Lib.hid (by
                  rw [decide_eq_false kl, Bool.false_or, hv1, ← hy2, str_beq]
                  by_cases e : v1 = DG
                  · rw [decide_eq_true e, decide_eq_true e.symm]
                  · rw [decide_eq_false e, decide_eq_false (fun h => e h.symm)])
                have z1 : ¬ ((k : Nat) : Int) + 1 = ((m : Nat) : Int) := by omega
                have z2 : k + 1 < m := by omega
                have z3 : ((k : Nat) : Int) + 1 < m := by omega
                have z4 : (((k : Nat) : Int) + 1).toNat = k + 1 := by omega
                have z5 : 0 ≤ ((k : Nat) : Int) + 1 := by omega
                clear f0 f2 f3 fz hv1 kl
                cases y2
                · go_wp2_with fail
                  refine (show Calls Tryz.prog 19 #[.slice (some ⟨g6, 0, none⟩) m c6] w' (fun e w'' => e = .returned (.bool (false && false)) ∧ Below w'.heap.size w' w'') from by
                    have := hlinked_any B (L.set k ⟨q.rnd, v9, DT, q.seed⟩) (some ⟨g6, 0, none⟩) c6 w' HTC.out HOC.out.hdrs (ok_set HKK.out HKL.out HR9'.out) (by rw [hset_len, HLM.out]; omega)
                    rw [hset_len, HLM.out, HLT.out, HYA.out, HYB.out] at this
                    exact this).mono ?_
                  rintro e XD ⟨rfl, hb⟩
                  go_wp2
                  go_ret
                  exact ⟨rfl, bnext HB1.out (bnext HB0.out (bnext HX3.out (bnext HX5.out (bnext HXC.out hb))))⟩
                · go_wp2_with fail
                  refine (show Calls Tryz.prog 19 #[.slice (some ⟨g6, 0, none⟩) m c6] w' (fun e w'' => e = .returned (.bool (false && true)) ∧ Below w'.heap.size w' w'') from by
                    have := hlinked_any B (L.set k ⟨q.rnd, v9, DT, q.seed⟩) (some ⟨g6, 0, none⟩) c6 w' HTC.out HOC.out.hdrs (ok_set HKK.out HKL.out HR9'.out) (by rw [hset_len, HLM.out]; omega)
                    rw [hset_len, HLM.out, HLT.out, HYA.out, HYB.out] at this
                    exact this).mono ?_
                  rintro e XD ⟨rfl, hb⟩
                  go_wp2
                  go_ret
                  exact ⟨rfl, bnext HB1.out (bnext HB0.out (bnext HX3.out (bnext HX5.out (bnext HXC.out hb))))⟩
            · have HO5C := Lib.hid (((HO5.out.below HXC.out)))
              have HTC := Lib.hid (HT5.out.below HXC.out)
              have kw : IntKind.i64.wrap (((k : Nat) : Int) + 1) = ((k : Nat) : Int) + 1 := IntWalk.i64_in _ (by omega)
              by_cases kl : k + 1 = m
              · have HYB : Hid ((decide (k + 1 = m) || decide ((hnth L (k + 1)).prev = DG)) = true) := Lib.hid (by rw [decide_eq_true kl]; rfl)
                have z1 : ((k : Nat) : Int) + 1 = ((m : Nat) : Int) := by omega
                clear kl
                go_wp2_with fail
                refine (show Calls Tryz.prog 19 #[.slice (some ⟨g6, 0, none⟩) m c6] w' (fun e w'' => e = .returned (.bool (true && true)) ∧ Below w'.heap.size w' w'') from by
                  have := hlinked_any B (L.set k ⟨q.rnd, v9, DT, q.seed⟩) (some ⟨g6, 0, none⟩) c6 w' HTC.out HOC.out.hdrs (ok_set HKK.out HKL.out HR9'.out) (by rw [hset_len, HLM.out]; omega)
                  rw [hset_len, HLM.out, HLT.out, HYA.out, HYB.out] at this
                  exact this).mono ?_
                rintro e XD ⟨rfl, hb⟩
                go_wp2
                go_ret
                exact ⟨rfl, bnext HB1.out (bnext HB0.out (bnext HX3.out (bnext HX5.out (bnext HXC.out hb))))⟩
              · obtain ⟨f0, f1, f2, f3, fz⟩ := HO5C.out.at (i := k + 1) (by rw [HLM.out]; omega)
                obtain ⟨v1, hv1⟩ : ∃ v, (hnth L (k + 1)).prev = v := ⟨_, rfl⟩
                rw [hv1] at f1
                obtain ⟨y2, hy2⟩ : ∃ y, (DG.toList == v1.toList) = y := ⟨_, rfl⟩
                have HYB : Hid ((decide (k + 1 = m) || decide ((hnth L (k + 1)).prev = DG)) = y2) := Lib.hid (by
                  rw [decide_eq_false kl, Bool.false_or, hv1, ← hy2, str_beq]
                  by_cases e : v1 = DG
                  · rw [decide_eq_true e, decide_eq_true e.symm]
                  · rw [decide_eq_false e, decide_eq_false (fun h => e h.symm)])
                have z1 : ¬ ((k : Nat) : Int) + 1 = ((m : Nat) : Int) := by omega
                have z2 : k + 1 < m := by omega
                have z3 : ((k : Nat) : Int) + 1 < m := by omega
                have z4 : (((k : Nat) : Int) + 1).toNat = k + 1 := by omega
                have z5 : 0 ≤ ((k : Nat) : Int) + 1 := by omega
                clear f0 f2 f3 fz hv1 kl
                cases y2
                · go_wp2_with fail
                  refine (show Calls Tryz.prog 19 #[.slice (some ⟨g6, 0, none⟩) m c6] w' (fun e w'' => e = .returned (.bool (true && false)) ∧ Below w'.heap.size w' w'') from by
                    have := hlinked_any B (L.set k ⟨q.rnd, v9, DT, q.seed⟩) (some ⟨g6, 0, none⟩) c6 w' HTC.out HOC.out.hdrs (ok_set HKK.out HKL.out HR9'.out) (by rw [hset_len, HLM.out]; omega)
                    rw [hset_len, HLM.out, HLT.out, HYA.out, HYB.out] at this
                    exact this).mono ?_
                  rintro e XD ⟨rfl, hb⟩
                  go_wp2
                  go_ret
                  exact ⟨(show Ending.returned (.bool (!(((k : Nat) : Int) + 1 == ((m : Nat) : Int)))) = Ending.returned (.bool true) from by rw [beq_eq_false_iff_ne.2 z1]; rfl), bnext HB1.out (bnext HB0.out (bnext HX3.out (bnext HX5.out (bnext HXC.out hb))))⟩
                · go_wp2_with fail
                  refine (show Calls Tryz.prog 19 #[.slice (some ⟨g6, 0, none⟩) m c6] w' (fun e w'' => e = .returned (.bool (true && true)) ∧ Below w'.heap.size w' w'') from by
                    have := hlinked_any B (L.set k ⟨q.rnd, v9, DT, q.seed⟩) (some ⟨g6, 0, none⟩) c6 w' HTC.out HOC.out.hdrs (ok_set HKK.out HKL.out HR9'.out) (by rw [hset_len, HLM.out]; omega)
                    rw [hset_len, HLM.out, HLT.out, HYA.out, HYB.out] at this
                    exact this).mono ?_
                  rintro e XD ⟨rfl, hb⟩
                  go_wp2
                  go_ret
                  exact ⟨rfl, bnext HB1.out (bnext HB0.out (bnext HX3.out (bnext HX5.out (bnext HXC.out hb))))⟩
        | false =>
          go_upto_region 36 with fail
          clear ct
          obtain ⟨WA, hW⟩ : ∃ W, W8 = W := ⟨_, rfl⟩
          have HOA := HO8
          have HXA := HX8
          rw [hW] at HOA HXA ⊢
          obtain ⟨v9, hv9⟩ : ∃ v, q.prev = v := ⟨_, rfl⟩
          have HV9 : Hid (v9.size = 32) := Lib.hid (by rw [← hv9]; exact HQS.out.1)
          rw [hv9] at HOA
          clear hW hv9
          have HR9' : Hid ((⟨q.rnd, v9, DT, q.seed⟩ : Hdr).Ok) := Lib.hid ⟨HQO.out.r0, by show v9.size ≤ _; rw [HV9.out]; decide, by show DT.size ≤ _; rw [HDT.out]; decide, HQO.out.s1⟩
          have HK9 : Hid (hOk ⟨q.rnd, v9, DT, q.seed⟩ = true) := Lib.hid (by
            rw [hOk_eq]
            show (decide (v9.size = 32) && decide (q.seed.size = 32) && decide (DT.size = 32)) = true
            rw [HV9.out, HQS.out.2.1, HDT.out]; rfl)
          have HTA := Lib.hid (HT5.out.below HXA.out)
          obtain ⟨e0, e1, e2, e3, fz⟩ := HOA.out.cell HKL.out
          go_wp2_with fail
          refine (hdig_any B ⟨q.rnd, v9, DT, q.seed⟩ WA HTA.out HR9'.out).mono ?_
          rintro e XB ⟨rfl, hb⟩
          have y1 : dgS ⟨q.rnd, v9, DT, q.seed⟩ = hdg ⟨q.rnd, v9, DT, q.seed⟩ := if_pos HK9.out
          have y2 : dgE ⟨q.rnd, v9, DT, q.seed⟩ = 0 := if_pos HK9.out
          rw [y1, y2]
          have HXB : Hid (Below x5.heap.size x5 XB) := Lib.hid (bnext HXA.out hb)
          have HOB := Lib.hid (HOA.out.below hb)
          clear hb y1 y2 e0 e1 e2 e3 fz
          have HLT : Hid (linkedH (L.set k ⟨q.rnd, v9, DT, q.seed⟩) = ((decide (k = 0) || decide (v9 = q.prev)) && (decide (k + 1 = m) || decide ((hnth L (k + 1)).prev = hdg ⟨q.rnd, v9, DT, q.seed⟩)))) := Lib.hid (by
            have h := HCR.out.turned (by rw [HLM.out]; exact nn) HKL.out (q := ⟨q.rnd, v9, DT, q.seed⟩) (by rw [HQ.out]) HK9.out
            rw [HQ.out, HLM.out] at h
            exact h)
          obtain ⟨DG, hDG⟩ : ∃ DG, hdg ⟨q.rnd, v9, DT, q.seed⟩ = DG := ⟨_, rfl⟩
          rw [hDG] at HLT ⊢
          clear hDG
          go_upto_region 37 with fail
          have HO5B := Lib.hid (HO5.out.below HXB.out)
          have HDGL : Hid (DG.size ≤ 1000000 → True) := Lib.hid (fun _ => trivial)
          by_cases k9 : k = 0
          · have HYA : Hid ((decide (k = 0) || decide (v9 = q.prev)) = true) := Lib.hid (by rw [decide_eq_true k9]; rfl)
            have kz : ((k : Nat) : Int) = 0 := by omega
            refine wp_region_all 1000 (none) (phis [fun u _ => u = (.int .i64 (k : Nat)), fun u _ => u = (.bool true), fun u _ => u = (.bool true), fun u _ => u = undef, fun u _ => u = undef, fun u _ => u = undef, fun u _ => u = undef, fun u _ => u = undef, fun u _ => u = undef, fun u _ => u = undef, fun u _ => u = undef, fun u _ => u = undef, fun u _ => u = undef, fun u _ => u = undef, fun u _ => u = (.bool true), fun u _ => u = (.bool true)]) rfl (by kernel_rfl) (mono_of ⟨mono_eq, mono_eq, mono_eq, mono_eq, mono_eq, mono_eq, mono_eq, mono_eq, mono_eq, mono_eq, mono_eq, mono_eq, mono_eq, mono_eq, mono_eq, mono_eq, trivial⟩) (steps_of 16 ⟨?s0, ?s1, ?s2, ?s3, ?s4, ?s5, ?s6, ?s7, ?s8, ?s9, ?s10, ?s11, ?s12, ?s13, ?s14, ?s15, trivial⟩) ?_
            case s0 =>
              refine step_val (v := (.int .i64 (k : Nat))) (fun av wv hE hS hO hD => ?_) (fun _ => rfl)
              have h18 : av.eval (.tmp 18) = (.int .i64 (k : Nat)) := hO.2.2 18 rfl
              have f18 := (ev_form av 18).symm.trans h18
              refine ⟨rfl, ?_⟩
              simp [go_sem, f18, k9]
            case s1 =>
              refine step_val (v := (.bool true)) (fun av wv hE hS hO hD => ?_) (fun _ => rfl)
              have d215 : av.eval (.tmp 215) = (.int .i64 (k : Nat)) := hD.1 rfl _ rfl
              have f215 := (ev_form av 215).symm.trans d215
              refine ⟨rfl, ?_⟩
              simp [go_sem, f215, k9]
            case s2 =>
              refine step_val (v := (.bool true)) (fun av wv hE hS hO hD => ?_) (fun _ => rfl)
              have d216 : av.eval (.tmp 216) = (.bool true) := hD.1 rfl _ rfl
              have f216 := (ev_form av 216).symm.trans d216
              refine ⟨rfl, ?_⟩
              simp [go_sem, f216, k9]
            case s3 =>
              refine step_skip (fun av wv hE hS hO hD => ?_) (fun _ => rfl)
              have h21 : av.eval (.tmp 21) = (.slice (some ⟨g6, 0, none⟩) m c6) := hO.2.2 21 rfl
              have f21 := (ev_form av 21).symm.trans h21
              have d217 : av.eval (.tmp 217) = (.bool true) := hD.1 rfl _ rfl
              have f217 := (ev_form av 217).symm.trans d217
              exact (wanted_of (d := 217) (b := true) (want := false) rfl rfl rfl d217)
            case s4 =>
              refine step_skip (fun av wv hE hS hO hD => ?_) (fun _ => rfl)
              have h18 : av.eval (.tmp 18) = (.int .i64 (k : Nat)) := hO.2.2 18 rfl
              have f18 := (ev_form av 18).symm.trans h18
              have d217 : av.eval (.tmp 217) = (.bool true) := hD.1 rfl _ rfl
              have f217 := (ev_form av 217).symm.trans d217
              exact (wanted_of (d := 217) (b := true) (want := false) rfl rfl rfl d217)
            case s5 =>
              refine step_skip (fun av wv hE hS hO hD => ?_) (fun _ => rfl)
              have d218 : av.eval (.tmp 218) = (undef) := hD.1 rfl _ rfl
              have f218 := (ev_form av 218).symm.trans d218
              have d219 : av.eval (.tmp 219) = (undef) := hD.2.1 rfl _ rfl
              have f219 := (ev_form av 219).symm.trans d219
              have d217 : av.eval (.tmp 217) = (.bool true) := hD.2.2.1 rfl _ rfl
              have f217 := (ev_form av 217).symm.trans d217
              exact (wanted_of (d := 217) (b := true) (want := false) rfl rfl rfl d217)
            case s6 =>
              refine step_skip (fun av wv hE hS hO hD => ?_) (fun _ => rfl)
              have d220 : av.eval (.tmp 220) = (undef) := hD.1 rfl _ rfl
              have f220 := (ev_form av 220).symm.trans d220
              have d217 : av.eval (.tmp 217) = (.bool true) := hD.2.1 rfl _ rfl
              have f217 := (ev_form av 217).symm.trans d217
              exact (wanted_of (d := 217) (b := true) (want := false) rfl rfl rfl d217)
            case s7 =>
              refine step_skip (fun av wv hE hS hO hD => ?_) (fun _ => rfl)
              have d221 : av.eval (.tmp 221) = (undef) := hD.1 rfl _ rfl
              have f221 := (ev_form av 221).symm.trans d221
              have d217 : av.eval (.tmp 217) = (.bool true) := hD.2.1 rfl _ rfl
              have f217 := (ev_form av 217).symm.trans d217
              exact (wanted_of (d := 217) (b := true) (want := false) rfl rfl rfl d217)
            case s8 =>
              refine step_skip (fun av wv hE hS hO hD => ?_) (fun _ => rfl)
              have h0 : av.eval (.tmp 0) = (.slice (some ⟨g, 0, none⟩) m c) := hO.2.2 0 rfl
              have f0 := (ev_form av 0).symm.trans h0
              have d217 : av.eval (.tmp 217) = (.bool true) := hD.1 rfl _ rfl
              have f217 := (ev_form av 217).symm.trans d217
              exact (wanted_of (d := 217) (b := true) (want := false) rfl rfl rfl d217)
            case s9 =>
              refine step_skip (fun av wv hE hS hO hD => ?_) (fun _ => rfl)
              have h18 : av.eval (.tmp 18) = (.int .i64 (k : Nat)) := hO.2.2 18 rfl
              have f18 := (ev_form av 18).symm.trans h18
              have d217 : av.eval (.tmp 217) = (.bool true) := hD.1 rfl _ rfl
              have f217 := (ev_form av 217).symm.trans d217
              exact (wanted_of (d := 217) (b := true) (want := false) rfl rfl rfl d217)
            case s10 =>
              refine step_skip (fun av wv hE hS hO hD => ?_) (fun _ => rfl)
              have d223 : av.eval (.tmp 223) = (undef) := hD.1 rfl _ rfl
              have f223 := (ev_form av 223).symm.trans d223
              have d224 : av.eval (.tmp 224) = (undef) := hD.2.1 rfl _ rfl
              have f224 := (ev_form av 224).symm.trans d224
              have d217 : av.eval (.tmp 217) = (.bool true) := hD.2.2.1 rfl _ rfl
              have f217 := (ev_form av 217).symm.trans d217
              exact (wanted_of (d := 217) (b := true) (want := false) rfl rfl rfl d217)
            case s11 =>
              refine step_skip (fun av wv hE hS hO hD => ?_) (fun _ => rfl)
              have d225 : av.eval (.tmp 225) = (undef) := hD.1 rfl _ rfl
              have f225 := (ev_form av 225).symm.trans d225
              have d217 : av.eval (.tmp 217) = (.bool true) := hD.2.1 rfl _ rfl
              have f217 := (ev_form av 217).symm.trans d217
              exact (wanted_of (d := 217) (b := true) (want := false) rfl rfl rfl d217)
            case s12 =>
              refine step_skip (fun av wv hE hS hO hD => ?_) (fun _ => rfl)
              have d226 : av.eval (.tmp 226) = (undef) := hD.1 rfl _ rfl
              have f226 := (ev_form av 226).symm.trans d226
              have d217 : av.eval (.tmp 217) = (.bool true) := hD.2.1 rfl _ rfl
              have f217 := (ev_form av 217).symm.trans d217
              exact (wanted_of (d := 217) (b := true) (want := false) rfl rfl rfl d217)
            case s13 =>
              refine step_skip (fun av wv hE hS hO hD => ?_) (fun _ => rfl)
              have d222 : av.eval (.tmp 222) = (undef) := hD.1 rfl _ rfl
              have f222 := (ev_form av 222).symm.trans d222
              have d227 : av.eval (.tmp 227) = (undef) := hD.2.1 rfl _ rfl
              have f227 := (ev_form av 227).symm.trans d227
              have d217 : av.eval (.tmp 217) = (.bool true) := hD.2.2.1 rfl _ rfl
              have f217 := (ev_form av 217).symm.trans d217
              exact (wanted_of (d := 217) (b := true) (want := false) rfl rfl rfl d217)
            case s14 =>
              refine step_val (v := (.bool true)) (fun av wv hE hS hO hD => ?_) (fun _ => rfl)
              have d217 : av.eval (.tmp 217) = (.bool true) := hD.1 rfl _ rfl
              have f217 := (ev_form av 217).symm.trans d217
              have d228 : av.eval (.tmp 228) = (undef) := hD.2.1 rfl _ rfl
              have f228 := (ev_form av 228).symm.trans d228
              refine ⟨rfl, ?_⟩
              simp [go_sem, f217, f228, k9]
            case s15 =>
              refine step_val (v := (.bool true)) (fun av wv hE hS hO hD => ?_) (fun _ => rfl)
              have d229 : av.eval (.tmp 229) = (.bool true) := hD.1 rfl _ rfl
              have f229 := (ev_form av 229).symm.trans d229
              refine ⟨rfl, ?_⟩
              simp [go_sem, f229, k9]
            intro a' w' hE hO hall
            have hA := act_of_outer (ds := [215, 216, 217, 218, 219, 220, 221, 222, 223, 224, 225, 226, 227, 228, 229, 24]) rfl hO (by kernel_rfl)
            have e215 : (fun u _ => u = (.int .i64 (k : Nat))) (a'.eval (.tmp 215)) w' := hall.1 _ rfl
            have e216 : (fun u _ => u = (.bool true)) (a'.eval (.tmp 216)) w' := hall.2.1 _ rfl
            have e217 : (fun u _ => u = (.bool true)) (a'.eval (.tmp 217)) w' := hall.2.2.1 _ rfl
            have e218 : (fun u _ => u = undef) (a'.eval (.tmp 218)) w' := hall.2.2.2.1 _ rfl
            have e219 : (fun u _ => u = undef) (a'.eval (.tmp 219)) w' := hall.2.2.2.2.1 _ rfl
            have e220 : (fun u _ => u = undef) (a'.eval (.tmp 220)) w' := hall.2.2.2.2.2.1 _ rfl
            have e221 : (fun u _ => u = undef) (a'.eval (.tmp 221)) w' := hall.2.2.2.2.2.2.1 _ rfl
            have e222 : (fun u _ => u = undef) (a'.eval (.tmp 222)) w' := hall.2.2.2.2.2.2.2.1 _ rfl
            have e223 : (fun u _ => u = undef) (a'.eval (.tmp 223)) w' := hall.2.2.2.2.2.2.2.2.1 _ rfl
            have e224 : (fun u _ => u = undef) (a'.eval (.tmp 224)) w' := hall.2.2.2.2.2.2.2.2.2.1 _ rfl
            have e225 : (fun u _ => u = undef) (a'.eval (.tmp 225)) w' := hall.2.2.2.2.2.2.2.2.2.2.1 _ rfl
            have e226 : (fun u _ => u = undef) (a'.eval (.tmp 226)) w' := hall.2.2.2.2.2.2.2.2.2.2.2.1 _ rfl
            have e227 : (fun u _ => u = undef) (a'.eval (.tmp 227)) w' := hall.2.2.2.2.2.2.2.2.2.2.2.2.1 _ rfl
            have e228 : (fun u _ => u = undef) (a'.eval (.tmp 228)) w' := hall.2.2.2.2.2.2.2.2.2.2.2.2.2.1 _ rfl
            have e229 : (fun u _ => u = (.bool true)) (a'.eval (.tmp 229)) w' := hall.2.2.2.2.2.2.2.2.2.2.2.2.2.2.1 _ rfl
            have e24 : (fun u _ => u = (.bool true)) (a'.eval (.tmp 24)) w' := hall.2.2.2.2.2.2.2.2.2.2.2.2.2.2.2.1 _ rfl
            simp only [List.foldl_cons, List.foldl_nil, Act.put, List.setIfInBounds_toArray, List.set_cons_succ, List.set_cons_zero, e215, e216, e217, e218, e219, e220, e221, e222, e223, e224, e225, e226, e227, e228, e229, e24] at hA
            clear hO hall e215 e216 e217 e218 e219 e220 e221 e222 e223 e224 e225 e226 e227 e228 e229 e24
            subst hA
            have HXC : Hid (Below x5.heap.size x5 w') := Lib.hid (bnext HXB.out (of_drew hE))
            have HOC := Lib.hid (HOB.out.below (of_drew hE))
            clear hE k9 kz
            have HO5C := Lib.hid (((HO5.out.below HXC.out)))
            have HTC := Lib.hid (HT5.out.below HXC.out)
            have kw : IntKind.i64.wrap (((k : Nat) : Int) + 1) = ((k : Nat) : Int) + 1 := IntWalk.i64_in _ (by omega)
            by_cases kl : k + 1 = m
            · have HYB : Hid ((decide (k + 1 = m) || decide ((hnth L (k + 1)).prev = DG)) = true) := Lib.hid (by rw [decide_eq_true kl]; rfl)
              have z1 : ((k : Nat) : Int) + 1 = ((m : Nat) : Int) := by omega
              clear kl
              go_wp2_with fail
              refine (show Calls Tryz.prog 19 #[.slice (some ⟨g6, 0, none⟩) m c6] w' (fun e w'' => e = .returned (.bool (true && true)) ∧ Below w'.heap.size w' w'') from by
                have := hlinked_any B (L.set k ⟨q.rnd, v9, DT, q.seed⟩) (some ⟨g6, 0, none⟩) c6 w' HTC.out HOC.out.hdrs (ok_set HKK.out HKL.out HR9'.out) (by rw [hset_len, HLM.out]; omega)
                rw [hset_len, HLM.out, HLT.out, HYA.out, HYB.out] at this
                exact this).mono ?_
              rintro e XD ⟨rfl, hb⟩
              go_wp2
              go_ret
              exact ⟨rfl, bnext HB1.out (bnext HB0.out (bnext HX3.out (bnext HX5.out (bnext HXC.out hb))))⟩
            · obtain ⟨f0, f1, f2, f3, fz⟩ := HO5C.out.at (i := k + 1) (by rw [HLM.out]; omega)
              obtain ⟨v1, hv1⟩ : ∃ v, (hnth L (k + 1)).prev = v := ⟨_, rfl⟩
              rw [hv1] at f1
              obtain ⟨y2, hy2⟩ : ∃ y, (DG.toList == v1.toList) = y := ⟨_, rfl⟩
              have HYB : Hid ((decide (k + 1 = m) || decide ((hnth L (k + 1)).prev = DG)) = y2) := Lib.hid (by
                rw [decide_eq_false kl, Bool.false_or, hv1, ← hy2, str_beq]
                by_cases e : v1 = DG
                · rw [decide_eq_true e, decide_eq_true e.symm]
                · rw [decide_eq_false e, decide_eq_false (fun h => e h.symm)])
              have z1 : ¬ ((k : Nat) : Int) + 1 = ((m : Nat) : Int) := by omega
              have z2 : k + 1 < m := by omega
              have z3 : ((k : Nat) : Int) + 1 < m := by omega
              have z4 : (((k : Nat) : Int) + 1).toNat = k + 1 := by omega
              have z5 : 0 ≤ ((k : Nat) : Int) + 1 := by omega
              clear f0 f2 f3 fz hv1 kl
              cases y2
              · go_wp2_with fail
                refine (show Calls Tryz.prog 19 #[.slice (some ⟨g6, 0, none⟩) m c6] w' (fun e w'' => e = .returned (.bool (true && false)) ∧ Below w'.heap.size w' w'') from by
                  have := hlinked_any B (L.set k ⟨q.rnd, v9, DT, q.seed⟩) (some ⟨g6, 0, none⟩) c6 w' HTC.out HOC.out.hdrs (ok_set HKK.out HKL.out HR9'.out) (by rw [hset_len, HLM.out]; omega)
                  rw [hset_len, HLM.out, HLT.out, HYA.out, HYB.out] at this
                  exact this).mono ?_
                rintro e XD ⟨rfl, hb⟩
                go_wp2
                go_ret
                exact ⟨(show Ending.returned (.bool (!(((k : Nat) : Int) + 1 == ((m : Nat) : Int)))) = Ending.returned (.bool true) from by rw [beq_eq_false_iff_ne.2 z1]; rfl), bnext HB1.out (bnext HB0.out (bnext HX3.out (bnext HX5.out (bnext HXC.out hb))))⟩
              · go_wp2_with fail
                refine (show Calls Tryz.prog 19 #[.slice (some ⟨g6, 0, none⟩) m c6] w' (fun e w'' => e = .returned (.bool (true && true)) ∧ Below w'.heap.size w' w'') from by
                  have := hlinked_any B (L.set k ⟨q.rnd, v9, DT, q.seed⟩) (some ⟨g6, 0, none⟩) c6 w' HTC.out HOC.out.hdrs (ok_set HKK.out HKL.out HR9'.out) (by rw [hset_len, HLM.out]; omega)
                  rw [hset_len, HLM.out, HLT.out, HYA.out, HYB.out] at this
                  exact this).mono ?_
                rintro e XD ⟨rfl, hb⟩
                go_wp2
                go_ret
                exact ⟨rfl, bnext HB1.out (bnext HB0.out (bnext HX3.out (bnext HX5.out (bnext HXC.out hb))))⟩
          · obtain ⟨f0, f1, f2, f3, fz⟩ := HO5B.out.at HKL.out
            rw [HQ.out] at f1
            obtain ⟨d0, d1, d2, d3, dz⟩ := HOB.out.cell HKL.out
            obtain ⟨v0, hv0⟩ : ∃ v, q.prev = v := ⟨_, rfl⟩
            rw [hv0] at f1
            have p1 : XB.cell? ⟨g6, k * 4 + 1, none⟩ = some (.string v9) := d1
            have q1 : XB.cell? ⟨g, k * 4 + 1, none⟩ = some (.string v0) := f1
            obtain ⟨y, hy⟩ : ∃ y, (v9.toList == v0.toList) = y := ⟨_, rfl⟩
            have HYA : Hid ((decide (k = 0) || decide (v9 = q.prev)) = y) := Lib.hid (by rw [decide_eq_false k9, Bool.false_or, hv0, ← hy, str_beq])
            have k0 : k < m := kb
            have k1 : ((k : Nat) : Int) < m := by omega
            have k2 : ¬ k = 0 := k9
            clear f0 f1 f2 f3 fz d0 d1 d2 d3 dz hv0 k9
            refine wp_region_all 1000 (none) (phis [fun u _ => u = (.int .i64 (k : Nat)), fun u _ => u = (.bool false), fun u _ => u = (.bool false), fun u _ => u = (.slice (some ⟨g6, 0, none⟩) m c6), fun u _ => u = (.int .i64 (k : Nat)), fun u _ => u = (.pointer (some ⟨g6, k * 4, none⟩)), fun u _ => u = (.pointer (some ⟨g6, k * 4 + 1, none⟩)), fun u _ => u = (.string v9), fun u _ => u = (.slice (some ⟨g, 0, none⟩) m c), fun u _ => u = (.int .i64 (k : Nat)), fun u _ => u = (.pointer (some ⟨g, k * 4, none⟩)), fun u _ => u = (.pointer (some ⟨g, k * 4 + 1, none⟩)), fun u _ => u = (.string v0), fun u _ => u = (.bool y), fun u _ => u = (.bool y), fun u _ => u = (.bool y)]) rfl (by kernel_rfl) (mono_of ⟨mono_eq, mono_eq, mono_eq, mono_eq, mono_eq, mono_eq, mono_eq, mono_eq, mono_eq, mono_eq, mono_eq, mono_eq, mono_eq, mono_eq, mono_eq, mono_eq, trivial⟩) (steps_of 16 ⟨?s0, ?s1, ?s2, ?s3, ?s4, ?s5, ?s6, ?s7, ?s8, ?s9, ?s10, ?s11, ?s12, ?s13, ?s14, ?s15, trivial⟩) ?_
            case s0 =>
              refine step_val (v := (.int .i64 (k : Nat))) (fun av wv hE hS hO hD => ?_) (fun _ => rfl)
              have h18 : av.eval (.tmp 18) = (.int .i64 (k : Nat)) := hO.2.2 18 rfl
              have f18 := (ev_form av 18).symm.trans h18
              refine ⟨rfl, ?_⟩
              simp [go_sem, f18, k0, k1, k2, hy]
            case s1 =>
              refine step_val (v := (.bool false)) (fun av wv hE hS hO hD => ?_) (fun _ => rfl)
              have d215 : av.eval (.tmp 215) = (.int .i64 (k : Nat)) := hD.1 rfl _ rfl
              have f215 := (ev_form av 215).symm.trans d215
              refine ⟨rfl, ?_⟩
              simp [go_sem, f215, k0, k1, k2, hy]
            case s2 =>
              refine step_val (v := (.bool false)) (fun av wv hE hS hO hD => ?_) (fun _ => rfl)
              have d216 : av.eval (.tmp 216) = (.bool false) := hD.1 rfl _ rfl
              have f216 := (ev_form av 216).symm.trans d216
              refine ⟨rfl, ?_⟩
              simp [go_sem, f216, k0, k1, k2, hy]
            case s3 =>
              refine step_val (v := (.slice (some ⟨g6, 0, none⟩) m c6)) (fun av wv hE hS hO hD => ?_) (fun _ => rfl)
              have h21 : av.eval (.tmp 21) = (.slice (some ⟨g6, 0, none⟩) m c6) := hO.2.2 21 rfl
              have f21 := (ev_form av 21).symm.trans h21
              have d217 : av.eval (.tmp 217) = (.bool false) := hD.1 rfl _ rfl
              have f217 := (ev_form av 217).symm.trans d217
              refine ⟨(wanted_of (d := 217) (b := false) (want := false) rfl rfl rfl d217), ?_⟩
              simp [go_sem, f21, f217, k0, k1, k2, hy]
            case s4 =>
              refine step_val (v := (.int .i64 (k : Nat))) (fun av wv hE hS hO hD => ?_) (fun _ => rfl)
              have h18 : av.eval (.tmp 18) = (.int .i64 (k : Nat)) := hO.2.2 18 rfl
              have f18 := (ev_form av 18).symm.trans h18
              have d217 : av.eval (.tmp 217) = (.bool false) := hD.1 rfl _ rfl
              have f217 := (ev_form av 217).symm.trans d217
              refine ⟨(wanted_of (d := 217) (b := false) (want := false) rfl rfl rfl d217), ?_⟩
              simp [go_sem, f18, f217, k0, k1, k2, hy]
            case s5 =>
              refine step_val (v := (.pointer (some ⟨g6, k * 4, none⟩))) (fun av wv hE hS hO hD => ?_) (fun _ => rfl)
              have d218 : av.eval (.tmp 218) = (.slice (some ⟨g6, 0, none⟩) m c6) := hD.1 rfl _ rfl
              have f218 := (ev_form av 218).symm.trans d218
              have d219 : av.eval (.tmp 219) = (.int .i64 (k : Nat)) := hD.2.1 rfl _ rfl
              have f219 := (ev_form av 219).symm.trans d219
              have d217 : av.eval (.tmp 217) = (.bool false) := hD.2.2.1 rfl _ rfl
              have f217 := (ev_form av 217).symm.trans d217
              refine ⟨(wanted_of (d := 217) (b := false) (want := false) rfl rfl rfl d217), ?_⟩
              simp [go_sem, f218, f219, f217, k0, k1, k2, hy]
            case s6 =>
              refine step_val (v := (.pointer (some ⟨g6, k * 4 + 1, none⟩))) (fun av wv hE hS hO hD => ?_) (fun _ => rfl)
              have d220 : av.eval (.tmp 220) = (.pointer (some ⟨g6, k * 4, none⟩)) := hD.1 rfl _ rfl
              have f220 := (ev_form av 220).symm.trans d220
              have d217 : av.eval (.tmp 217) = (.bool false) := hD.2.1 rfl _ rfl
              have f217 := (ev_form av 217).symm.trans d217
              refine ⟨(wanted_of (d := 217) (b := false) (want := false) rfl rfl rfl d217), ?_⟩
              simp [go_sem, f220, f217, k0, k1, k2, hy]
            case s7 =>
              refine step_val (v := (.string v9)) (fun av wv hE hS hO hD => ?_) (fun _ => rfl)
              have d221 : av.eval (.tmp 221) = (.pointer (some ⟨g6, k * 4 + 1, none⟩)) := hD.1 rfl _ rfl
              have f221 := (ev_form av 221).symm.trans d221
              have d217 : av.eval (.tmp 217) = (.bool false) := hD.2.1 rfl _ rfl
              have f217 := (ev_form av 217).symm.trans d217
              have p1 := extB_cell hE (by simp) p1
              have q1 := extB_cell hE (by simp) q1
              refine ⟨(wanted_of (d := 217) (b := false) (want := false) rfl rfl rfl d217), ?_⟩
              simp [go_sem, f221, f217, p1, q1, k0, k1, k2, hy]
            case s8 =>
              refine step_val (v := (.slice (some ⟨g, 0, none⟩) m c)) (fun av wv hE hS hO hD => ?_) (fun _ => rfl)
              have h0 : av.eval (.tmp 0) = (.slice (some ⟨g, 0, none⟩) m c) := hO.2.2 0 rfl
              have f0 := (ev_form av 0).symm.trans h0
              have d217 : av.eval (.tmp 217) = (.bool false) := hD.1 rfl _ rfl
              have f217 := (ev_form av 217).symm.trans d217
              refine ⟨(wanted_of (d := 217) (b := false) (want := false) rfl rfl rfl d217), ?_⟩
              simp [go_sem, f0, f217, k0, k1, k2, hy]
            case s9 =>
              refine step_val (v := (.int .i64 (k : Nat))) (fun av wv hE hS hO hD => ?_) (fun _ => rfl)
              have h18 : av.eval (.tmp 18) = (.int .i64 (k : Nat)) := hO.2.2 18 rfl
              have f18 := (ev_form av 18).symm.trans h18
              have d217 : av.eval (.tmp 217) = (.bool false) := hD.1 rfl _ rfl
              have f217 := (ev_form av 217).symm.trans d217
              refine ⟨(wanted_of (d := 217) (b := false) (want := false) rfl rfl rfl d217), ?_⟩
              simp [go_sem, f18, f217, k0, k1, k2, hy]
            case s10 =>
              refine step_val (v := (.pointer (some ⟨g, k * 4, none⟩))) (fun av wv hE hS hO hD => ?_) (fun _ => rfl)
              have d223 : av.eval (.tmp 223) = (.slice (some ⟨g, 0, none⟩) m c) := hD.1 rfl _ rfl
              have f223 := (ev_form av 223).symm.trans d223
              have d224 : av.eval (.tmp 224) = (.int .i64 (k : Nat)) := hD.2.1 rfl _ rfl
              have f224 := (ev_form av 224).symm.trans d224
              have d217 : av.eval (.tmp 217) = (.bool false) := hD.2.2.1 rfl _ rfl
              have f217 := (ev_form av 217).symm.trans d217
              refine ⟨(wanted_of (d := 217) (b := false) (want := false) rfl rfl rfl d217), ?_⟩
              simp [go_sem, f223, f224, f217, k0, k1, k2, hy]
            case s11 =>
              refine step_val (v := (.pointer (some ⟨g, k * 4 + 1, none⟩))) (fun av wv hE hS hO hD => ?_) (fun _ => rfl)
              have d225 : av.eval (.tmp 225) = (.pointer (some ⟨g, k * 4, none⟩)) := hD.1 rfl _ rfl
              have f225 := (ev_form av 225).symm.trans d225
              have d217 : av.eval (.tmp 217) = (.bool false) := hD.2.1 rfl _ rfl
              have f217 := (ev_form av 217).symm.trans d217
              refine ⟨(wanted_of (d := 217) (b := false) (want := false) rfl rfl rfl d217), ?_⟩
              simp [go_sem, f225, f217, k0, k1, k2, hy]
            case s12 =>
              refine step_val (v := (.string v0)) (fun av wv hE hS hO hD => ?_) (fun _ => rfl)
              have d226 : av.eval (.tmp 226) = (.pointer (some ⟨g, k * 4 + 1, none⟩)) := hD.1 rfl _ rfl
              have f226 := (ev_form av 226).symm.trans d226
              have d217 : av.eval (.tmp 217) = (.bool false) := hD.2.1 rfl _ rfl
              have f217 := (ev_form av 217).symm.trans d217
              have p1 := extB_cell hE (by simp) p1
              have q1 := extB_cell hE (by simp) q1
              refine ⟨(wanted_of (d := 217) (b := false) (want := false) rfl rfl rfl d217), ?_⟩
              simp [go_sem, f226, f217, p1, q1, k0, k1, k2, hy]
            case s13 =>
              refine step_val (v := (.bool y)) (fun av wv hE hS hO hD => ?_) (fun _ => rfl)
              have d222 : av.eval (.tmp 222) = (.string v9) := hD.1 rfl _ rfl
              have f222 := (ev_form av 222).symm.trans d222
              have d227 : av.eval (.tmp 227) = (.string v0) := hD.2.1 rfl _ rfl
              have f227 := (ev_form av 227).symm.trans d227
              have d217 : av.eval (.tmp 217) = (.bool false) := hD.2.2.1 rfl _ rfl
              have f217 := (ev_form av 217).symm.trans d217
              refine ⟨(wanted_of (d := 217) (b := false) (want := false) rfl rfl rfl d217), ?_⟩
              simp [go_sem, f222, f227, f217, k0, k1, k2, hy]
            case s14 =>
              refine step_val (v := (.bool y)) (fun av wv hE hS hO hD => ?_) (fun _ => rfl)
              have d217 : av.eval (.tmp 217) = (.bool false) := hD.1 rfl _ rfl
              have f217 := (ev_form av 217).symm.trans d217
              have d228 : av.eval (.tmp 228) = (.bool y) := hD.2.1 rfl _ rfl
              have f228 := (ev_form av 228).symm.trans d228
              refine ⟨rfl, ?_⟩
              simp [go_sem, f217, f228, k0, k1, k2, hy]
            case s15 =>
              refine step_val (v := (.bool y)) (fun av wv hE hS hO hD => ?_) (fun _ => rfl)
              have d229 : av.eval (.tmp 229) = (.bool y) := hD.1 rfl _ rfl
              have f229 := (ev_form av 229).symm.trans d229
              refine ⟨rfl, ?_⟩
              simp [go_sem, f229, k0, k1, k2, hy]
            intro a' w' hE hO hall
            have hA := act_of_outer (ds := [215, 216, 217, 218, 219, 220, 221, 222, 223, 224, 225, 226, 227, 228, 229, 24]) rfl hO (by kernel_rfl)
            have e215 : (fun u _ => u = (.int .i64 (k : Nat))) (a'.eval (.tmp 215)) w' := hall.1 _ rfl
            have e216 : (fun u _ => u = (.bool false)) (a'.eval (.tmp 216)) w' := hall.2.1 _ rfl
            have e217 : (fun u _ => u = (.bool false)) (a'.eval (.tmp 217)) w' := hall.2.2.1 _ rfl
            have e218 : (fun u _ => u = (.slice (some ⟨g6, 0, none⟩) m c6)) (a'.eval (.tmp 218)) w' := hall.2.2.2.1 _ rfl
            have e219 : (fun u _ => u = (.int .i64 (k : Nat))) (a'.eval (.tmp 219)) w' := hall.2.2.2.2.1 _ rfl
            have e220 : (fun u _ => u = (.pointer (some ⟨g6, k * 4, none⟩))) (a'.eval (.tmp 220)) w' := hall.2.2.2.2.2.1 _ rfl
            have e221 : (fun u _ => u = (.pointer (some ⟨g6, k * 4 + 1, none⟩))) (a'.eval (.tmp 221)) w' := hall.2.2.2.2.2.2.1 _ rfl
            have e222 : (fun u _ => u = (.string v9)) (a'.eval (.tmp 222)) w' := hall.2.2.2.2.2.2.2.1 _ rfl
            have e223 : (fun u _ => u = (.slice (some ⟨g, 0, none⟩) m c)) (a'.eval (.tmp 223)) w' := hall.2.2.2.2.2.2.2.2.1 _ rfl
            have e224 : (fun u _ => u = (.int .i64 (k : Nat))) (a'.eval (.tmp 224)) w' := hall.2.2.2.2.2.2.2.2.2.1 _ rfl
            have e225 : (fun u _ => u = (.pointer (some ⟨g, k * 4, none⟩))) (a'.eval (.tmp 225)) w' := hall.2.2.2.2.2.2.2.2.2.2.1 _ rfl
            have e226 : (fun u _ => u = (.pointer (some ⟨g, k * 4 + 1, none⟩))) (a'.eval (.tmp 226)) w' := hall.2.2.2.2.2.2.2.2.2.2.2.1 _ rfl
            have e227 : (fun u _ => u = (.string v0)) (a'.eval (.tmp 227)) w' := hall.2.2.2.2.2.2.2.2.2.2.2.2.1 _ rfl
            have e228 : (fun u _ => u = (.bool y)) (a'.eval (.tmp 228)) w' := hall.2.2.2.2.2.2.2.2.2.2.2.2.2.1 _ rfl
            have e229 : (fun u _ => u = (.bool y)) (a'.eval (.tmp 229)) w' := hall.2.2.2.2.2.2.2.2.2.2.2.2.2.2.1 _ rfl
            have e24 : (fun u _ => u = (.bool y)) (a'.eval (.tmp 24)) w' := hall.2.2.2.2.2.2.2.2.2.2.2.2.2.2.2.1 _ rfl
            simp only [List.foldl_cons, List.foldl_nil, Act.put, List.setIfInBounds_toArray, List.set_cons_succ, List.set_cons_zero, e215, e216, e217, e218, e219, e220, e221, e222, e223, e224, e225, e226, e227, e228, e229, e24] at hA
            clear hO hall e215 e216 e217 e218 e219 e220 e221 e222 e223 e224 e225 e226 e227 e228 e229 e24
            subst hA
            have HXC : Hid (Below x5.heap.size x5 w') := Lib.hid (bnext HXB.out (of_drew hE))
            have HOC := Lib.hid (HOB.out.below (of_drew hE))
            clear hE k0 k1 k2 p1 q1 hy
            cases y
            · have HO5C := Lib.hid (((HO5.out.below HXC.out)))
              have HTC := Lib.hid (HT5.out.below HXC.out)
              have kw : IntKind.i64.wrap (((k : Nat) : Int) + 1) = ((k : Nat) : Int) + 1 := IntWalk.i64_in _ (by omega)
              by_cases kl : k + 1 = m
              · have HYB : Hid ((decide (k + 1 = m) || decide ((hnth L (k + 1)).prev = DG)) = true) := Lib.hid (by rw [decide_eq_true kl]; rfl)
                have z1 : ((k : Nat) : Int) + 1 = ((m : Nat) : Int) := by omega
                clear kl
                go_wp2_with fail
                refine (show Calls Tryz.prog 19 #[.slice (some ⟨g6, 0, none⟩) m c6] w' (fun e w'' => e = .returned (.bool (false && true)) ∧ Below w'.heap.size w' w'') from by
                  have := hlinked_any B (L.set k ⟨q.rnd, v9, DT, q.seed⟩) (some ⟨g6, 0, none⟩) c6 w' HTC.out HOC.out.hdrs (ok_set HKK.out HKL.out HR9'.out) (by rw [hset_len, HLM.out]; omega)
                  rw [hset_len, HLM.out, HLT.out, HYA.out, HYB.out] at this
                  exact this).mono ?_
                rintro e XD ⟨rfl, hb⟩
                go_wp2
                go_ret
                exact ⟨rfl, bnext HB1.out (bnext HB0.out (bnext HX3.out (bnext HX5.out (bnext HXC.out hb))))⟩
              · obtain ⟨f0, f1, f2, f3, fz⟩ := HO5C.out.at (i := k + 1) (by rw [HLM.out]; omega)
                obtain ⟨v1, hv1⟩ : ∃ v, (hnth L (k + 1)).prev = v := ⟨_, rfl⟩
                rw [hv1] at f1
                obtain ⟨y2, hy2⟩ : ∃ y, (DG.toList == v1.toList) = y := ⟨_, rfl⟩
                have HYB : Hid ((decide (k + 1 = m) || decide ((hnth L (k + 1)).prev = DG)) = y2) := Lib.hid (by
                  rw [decide_eq_false kl, Bool.false_or, hv1, ← hy2, str_beq]
                  by_cases e : v1 = DG
                  · rw [decide_eq_true e, decide_eq_true e.symm]
                  · rw [decide_eq_false e, decide_eq_false (fun h => e h.symm)])
                have z1 : ¬ ((k : Nat) : Int) + 1 = ((m : Nat) : Int) := by omega
                have z2 : k + 1 < m := by omega
                have z3 : ((k : Nat) : Int) + 1 < m := by omega
                have z4 : (((k : Nat) : Int) + 1).toNat = k + 1 := by omega
                have z5 : 0 ≤ ((k : Nat) : Int) + 1 := by omega
                clear f0 f2 f3 fz hv1 kl
                cases y2
                · go_wp2_with fail
                  refine (show Calls Tryz.prog 19 #[.slice (some ⟨g6, 0, none⟩) m c6] w' (fun e w'' => e = .returned (.bool (false && false)) ∧ Below w'.heap.size w' w'') from by
                    have := hlinked_any B (L.set k ⟨q.rnd, v9, DT, q.seed⟩) (some ⟨g6, 0, none⟩) c6 w' HTC.out HOC.out.hdrs (ok_set HKK.out HKL.out HR9'.out) (by rw [hset_len, HLM.out]; omega)
                    rw [hset_len, HLM.out, HLT.out, HYA.out, HYB.out] at this
                    exact this).mono ?_
                  rintro e XD ⟨rfl, hb⟩
                  go_wp2
                  go_ret
                  exact ⟨rfl, bnext HB1.out (bnext HB0.out (bnext HX3.out (bnext HX5.out (bnext HXC.out hb))))⟩
                · go_wp2_with fail
                  refine (show Calls Tryz.prog 19 #[.slice (some ⟨g6, 0, none⟩) m c6] w' (fun e w'' => e = .returned (.bool (false && true)) ∧ Below w'.heap.size w' w'') from by
                    have := hlinked_any B (L.set k ⟨q.rnd, v9, DT, q.seed⟩) (some ⟨g6, 0, none⟩) c6 w' HTC.out HOC.out.hdrs (ok_set HKK.out HKL.out HR9'.out) (by rw [hset_len, HLM.out]; omega)
                    rw [hset_len, HLM.out, HLT.out, HYA.out, HYB.out] at this
                    exact this).mono ?_
                  rintro e XD ⟨rfl, hb⟩
                  go_wp2
                  go_ret
                  exact ⟨rfl, bnext HB1.out (bnext HB0.out (bnext HX3.out (bnext HX5.out (bnext HXC.out hb))))⟩
            · have HO5C := Lib.hid (((HO5.out.below HXC.out)))
              have HTC := Lib.hid (HT5.out.below HXC.out)
              have kw : IntKind.i64.wrap (((k : Nat) : Int) + 1) = ((k : Nat) : Int) + 1 := IntWalk.i64_in _ (by omega)
              by_cases kl : k + 1 = m
              · have HYB : Hid ((decide (k + 1 = m) || decide ((hnth L (k + 1)).prev = DG)) = true) := Lib.hid (by rw [decide_eq_true kl]; rfl)
                have z1 : ((k : Nat) : Int) + 1 = ((m : Nat) : Int) := by omega
                clear kl
                go_wp2_with fail
                refine (show Calls Tryz.prog 19 #[.slice (some ⟨g6, 0, none⟩) m c6] w' (fun e w'' => e = .returned (.bool (true && true)) ∧ Below w'.heap.size w' w'') from by
                  have := hlinked_any B (L.set k ⟨q.rnd, v9, DT, q.seed⟩) (some ⟨g6, 0, none⟩) c6 w' HTC.out HOC.out.hdrs (ok_set HKK.out HKL.out HR9'.out) (by rw [hset_len, HLM.out]; omega)
                  rw [hset_len, HLM.out, HLT.out, HYA.out, HYB.out] at this
                  exact this).mono ?_
                rintro e XD ⟨rfl, hb⟩
                go_wp2
                go_ret
                exact ⟨rfl, bnext HB1.out (bnext HB0.out (bnext HX3.out (bnext HX5.out (bnext HXC.out hb))))⟩
              · obtain ⟨f0, f1, f2, f3, fz⟩ := HO5C.out.at (i := k + 1) (by rw [HLM.out]; omega)
                obtain ⟨v1, hv1⟩ : ∃ v, (hnth L (k + 1)).prev = v := ⟨_, rfl⟩
                rw [hv1] at f1
                obtain ⟨y2, hy2⟩ : ∃ y, (DG.toList == v1.toList) = y := ⟨_, rfl⟩
                have HYB : Hid ((decide (k + 1 = m) || decide ((hnth L (k + 1)).prev = DG)) = y2) := Lib.hid (by
                  rw [decide_eq_false kl, Bool.false_or, hv1, ← hy2, str_beq]
                  by_cases e : v1 = DG
                  · rw [decide_eq_true e, decide_eq_true e.symm]
                  · rw [decide_eq_false e, decide_eq_false (fun h => e h.symm)])
                have z1 : ¬ ((k : Nat) : Int) + 1 = ((m : Nat) : Int) := by omega
                have z2 : k + 1 < m := by omega
                have z3 : ((k : Nat) : Int) + 1 < m := by omega
                have z4 : (((k : Nat) : Int) + 1).toNat = k + 1 := by omega
                have z5 : 0 ≤ ((k : Nat) : Int) + 1 := by omega
                clear f0 f2 f3 fz hv1 kl
                cases y2
                · go_wp2_with fail
                  refine (show Calls Tryz.prog 19 #[.slice (some ⟨g6, 0, none⟩) m c6] w' (fun e w'' => e = .returned (.bool (true && false)) ∧ Below w'.heap.size w' w'') from by
                    have := hlinked_any B (L.set k ⟨q.rnd, v9, DT, q.seed⟩) (some ⟨g6, 0, none⟩) c6 w' HTC.out HOC.out.hdrs (ok_set HKK.out HKL.out HR9'.out) (by rw [hset_len, HLM.out]; omega)
                    rw [hset_len, HLM.out, HLT.out, HYA.out, HYB.out] at this
                    exact this).mono ?_
                  rintro e XD ⟨rfl, hb⟩
                  go_wp2
                  go_ret
                  exact ⟨(show Ending.returned (.bool (!(((k : Nat) : Int) + 1 == ((m : Nat) : Int)))) = Ending.returned (.bool true) from by rw [beq_eq_false_iff_ne.2 z1]; rfl), bnext HB1.out (bnext HB0.out (bnext HX3.out (bnext HX5.out (bnext HXC.out hb))))⟩
                · go_wp2_with fail
                  refine (show Calls Tryz.prog 19 #[.slice (some ⟨g6, 0, none⟩) m c6] w' (fun e w'' => e = .returned (.bool (true && true)) ∧ Below w'.heap.size w' w'') from by
                    have := hlinked_any B (L.set k ⟨q.rnd, v9, DT, q.seed⟩) (some ⟨g6, 0, none⟩) c6 w' HTC.out HOC.out.hdrs (ok_set HKK.out HKL.out HR9'.out) (by rw [hset_len, HLM.out]; omega)
                    rw [hset_len, HLM.out, HLT.out, HYA.out, HYB.out] at this
                    exact this).mono ?_
                  rintro e XD ⟨rfl, hb⟩
                  go_wp2
                  go_ret
                  exact ⟨rfl, bnext HB1.out (bnext HB0.out (bnext HX3.out (bnext HX5.out (bnext HXC.out hb))))⟩
end Go.Proofs.YtpobhbdomldecaaGreatDoor
namespace Go.Proofs.YtpobhbdomldecaaGreatDoor
set_option linter.unusedSimpArgs false
set_option linter.unusedVariables false
open Go.RowKit Go.ChangeShapes Go.WideShapes Go.ChangeAt Go.Deep
section
variable {H : Type} {enc : TypeId × Value → H} {P : Program} {w : World}
theorem below_trodAll (hl : laidOutB P = true) {W W' : World} (hb : Below W.heap.size W W') : ∀ {ts : List TypeId} {vs : List Value} {ds : List (DataW H)} {ps : List MemPlace},
    (∀ t ∈ ts, P.readableRec t = true ∧ t < P.types.size) → DataW.TrodAll enc P W 0 (fun _ => true) true ts vs ds ps → DataW.TrodAll enc P W' 0 (fun b => decide (b < W.heap.size)) true ts vs ds ps
  | [], vs, ds, ps, _, h => by
    obtain ⟨rfl, rfl, rfl⟩ := trodAll_nil h
    exact trodAll_mk0
  | t :: ts, vs, ds, ps, ht, h => by
    obtain ⟨v, vs', d, ds', p, q, rfl, rfl, rfl, h0, r0⟩ := trodAll_cons h
    have lt0 : ∀ x ∈ p, x.block < W.heap.size := by obtain ⟨m, hm⟩ := h0; exact DataW.trod_lt m _ _ _ hm
    exact trodAll_cons_mk (Below.trod hl (ht t (List.mem_cons_self ..)).1 (ht t (List.mem_cons_self ..)).2 h0 hb lt0) (below_trodAll hl hb (fun t' h' => ht t' (List.mem_cons_of_mem _ h')) r0)
theorem list_of {α : Type} {n : Nat} {p : Nat → α → Prop} (h : ∀ i, i < n → ∃ x, p i x) : ∃ l : List α, l.length = n ∧ ∀ i (hi : i < l.length), p i l[i] := by
  induction n with
  | zero => exact ⟨[], rfl, fun i hi => by simp at hi⟩
  | succ n ih =>
    obtain ⟨l, hl, hp⟩ := ih (fun i hi => h i (by omega))
    obtain ⟨x, hx⟩ := h n (by omega)
    refine ⟨l ++ [x], by simp [hl], fun i hi => ?_⟩
    rcases Nat.lt_or_ge i l.length with h' | h'
    · rw [List.getElem_append_left h']; exact hp i h'
    · have e : i = l.length := by simp at hi; omega
      subst e
      simp only [List.getElem_append_right (Nat.le_refl _), Nat.sub_self, List.getElem_cons_zero]
      rw [hl]; exact hx
theorem open_elems {α : Type} {t e : TypeId} (k : Nat) (cells : α → List Value) (ok : α → Prop) (ht : P.underlying t = some (.slice e)) (hC : P.cellsOf e = k) (hk : 0 < k)
    (hel : ∀ n cs' y, cs'.length = k → DataW.trod enc P w 0 (fun _ => true) true n e cs' = some y → ∃ x, cs' = cells x ∧ ok x)
    {v : Value} {d : DataW H} {p : List MemPlace} {r : Reach} {base : Nat} (hv : Value.okWide P w r base t v) (h : DataW.Trod enc P w 0 (fun _ => true) true t v d p) :
    ∃ a c, ∃ l : List α, v = .slice a (len l) c ∧ len l ≤ c ∧ c ≤ maxLen ∧ ∀ i (hi : i < l.length), ok l[i] ∧ ∃ b off, a = some ⟨b, off, none⟩ ∧ ∀ j, j < k → w.cell? ⟨b, off + i * k + j, none⟩ = (cells l[i])[j]? := by
  obtain ⟨a0, n0, c0, rfl⟩ := okWide_slice ht hv
  obtain ⟨fuel, hf⟩ := h
  rcases open_slice ht hf with ⟨hcs, _⟩ | ⟨a, n, c, m, q, D, Pl, hcs, _, hl, hm, hmm, _, hi⟩
  · simp [Value.cells] at hcs
    obtain ⟨rfl, rfl, rfl⟩ := hcs
    exact ⟨none, 0, [], rfl, Nat.le_refl _, Nat.zero_le _, fun i hi => by simp at hi⟩
  · simp [Value.cells] at hcs
    obtain ⟨rfl, rfl, rfl⟩ := hcs
    have hnm : n0 ≤ m := by rw [hmm]; simp; exact hl
    have each : ∀ i, i < n0 → ∃ x, ok x ∧ ∃ b off, some a = some ⟨b, off, none⟩ ∧ ∀ j, j < k → w.cell? ⟨b, off + i * k + j, none⟩ = (cells x)[j]? := by
      intro i hin
      obtain ⟨cs', hc, htr⟩ := hi i (by omega)
      rw [hC] at hc
      obtain ⟨_, hcl, hat⟩ := World.cells?_some hc
      obtain ⟨x, rfl, hx⟩ := hel q cs' _ hcl htr
      obtain ⟨b, off, spot⟩ := a
      have hspot : spot = none := by
        obtain ⟨cs0, hc0, htr0⟩ := hi 0 (by omega)
        rw [hC] at hc0
        obtain ⟨_, hcl0, hat0⟩ := World.cells?_some hc0
        have h1 := hat0 0 hk
        have h2 : cs0[0]? = some (cs0[0]'(by omega)) := List.getElem?_eq_getElem (by omega)
        rw [h2] at h1
        simpa [Addr.add] using World.cell?_spot h1
      subst hspot
      refine ⟨x, hx, b, off, rfl, fun j hj => ?_⟩
      have h1 := hat j hj
      rw [Go.Deep.add_add] at h1
      have e : (⟨b, off, none⟩ : Addr).add (i * k + j) = ⟨b, off + i * k + j, none⟩ := by
        unfold Addr.add; split
        · rename_i h0; simp <;> omega
        · simp [Nat.add_assoc]
      rw [e] at h1; exact h1
    obtain ⟨l, hll, hp⟩ := list_of each
    subst hll
    exact ⟨some a, c0, l, rfl, hl, hm, hp⟩
theorem cell_read {n : Nat} {e : TypeId} {k : IntKind} {v : Value} {y : DataW H × List MemPlace} (he : P.underlying e = some (.int k)) (h : DataW.trod enc P w 0 (fun _ => true) true n e [v] = some y) : ∃ x, v = .int k x ∧ (Lit.int k x).wf = true := by
  obtain ⟨x, hx, _, hw⟩ := DataW.trod_int he h
  exact ⟨x, by simpa using hx, hw⟩
theorem wf_u64 {x : Int} (h : (Lit.int .u64 x).wf = true) : 0 ≤ x ∧ x < 18446744073709551616 := by
  simp [Lit.wf, IntKind.min, IntKind.max, IntKind.bits, IntKind.signed] at h; omega
theorem wf_u8 {x : Int} (h : (Lit.int .u8 x).wf = true) : 0 ≤ x ∧ x ≤ 255 := by
  simp [Lit.wf, IntKind.min, IntKind.max, IntKind.bits, IntKind.signed] at h; omega
end
end Go.Proofs.YtpobhbdomldecaaGreatDoor
namespace Go.Proofs.YtpobhbdomldecaaGreatDoor
set_option linter.unusedSimpArgs false
set_option linter.unusedVariables false
open Go.RowKit Go.ChangeShapes Go.WideShapes Go.ChangeAt
theorem own : ownKnob Tryz.prog.godebug = none := by kernel_rfl
theorem laidOut : laidOutB Tryz.prog = true := by kernel_rfl
end Go.Proofs.YtpobhbdomldecaaGreatDoor
namespace Go.Proofs.YtpobhbdomldecaaGreatDoor
set_option linter.unusedSimpArgs false
set_option linter.unusedVariables false
open Go.RowKit Go.ChangeShapes Go.WideShapes Go.ChangeAt
section
variable {P : Program} {H : Type} {enc : TypeId × Value → H} {w : World}
theorem strH_read {n : Nat} {e : TypeId} {v : Value} {y : DataW H × List MemPlace} (he : P.underlying e = some .string) (h : DataW.trod enc P w 0 (fun _ => true) true n e [v] = some y) : ∃ s : ByteArray, v = .string s ∧ s.size ≤ maxLen := by
  obtain ⟨s, hx, _, hw⟩ := DataW.trod_string he h
  exact ⟨s, by simpa using hx, hw⟩
end
structure HdrIn (r : Hdr) : Prop where
  n : U64i r.rnd
  p : r.prev.size ≤ maxLen
  t : r.txns.size ≤ maxLen
  s : r.seed.size ≤ maxLen
theorem HdrIn.zero : HdrIn Hdr.zero := ⟨⟨by decide, by decide⟩, by decide, by decide, by decide⟩
set_option maxRecDepth 100000 in
theorem open_hdrs {H : Type} {enc : TypeId × Value → H} {w : World} {v : Value} {d : DataW H} {p : List MemPlace} {r : Reach} {base : Nat} (hv : Value.okWide Tryz.prog w r base 22 v) (h : DataW.Trod enc Tryz.prog w 0 (fun _ => true) true 22 v d p) :
    ∃ a c, ∃ l : List Hdr, v = .slice a (len l) c ∧ len l ≤ c ∧ c ≤ maxLen ∧ Hdrs w a l ∧ ∀ i, HdrIn (hnth l i) := by
  obtain ⟨a, c, l, rfl, h1, h2, h3⟩ := open_elems 4 Hdr.cells HdrIn Tryz.underlying22 (by kernel_rfl) (by decide) (fun n cs' y hl hy => by
    match cs', hl with
    | [v0, v1, v2, v3], _ =>
      obtain ⟨xs, m, _, _, _, hxl, hx⟩ := DataW.trod_struct Tryz.underlying33 hy
      have cu : Tryz.prog.cellsOf 23 = 1 := by kernel_rfl
      have cs : Tryz.prog.cellsOf 9 = 1 := by kernel_rfl
      have hxl' : xs.length = 4 := hxl
      have h0 : DataW.trod enc Tryz.prog w 0 (fun _ => true) true m 23 (([v0, v1, v2, v3].drop 0).take (Tryz.prog.cellsOf 23)) = xs[0]? := hx 0 _ rfl
      have h1 : DataW.trod enc Tryz.prog w 0 (fun _ => true) true m 9 (([v0, v1, v2, v3].drop 1).take (Tryz.prog.cellsOf 9)) = xs[1]? := hx 1 _ rfl
      have h2 : DataW.trod enc Tryz.prog w 0 (fun _ => true) true m 9 (([v0, v1, v2, v3].drop 2).take (Tryz.prog.cellsOf 9)) = xs[2]? := hx 2 _ rfl
      have h3 : DataW.trod enc Tryz.prog w 0 (fun _ => true) true m 9 (([v0, v1, v2, v3].drop 3).take (Tryz.prog.cellsOf 9)) = xs[3]? := hx 3 _ rfl
      rw [cu] at h0
      rw [cs] at h1 h2 h3
      obtain ⟨x0, rfl, w0⟩ := cell_read Tryz.underlying23 (h0.trans (List.getElem?_eq_getElem (show 0 < xs.length by omega)))
      obtain ⟨x1, rfl, w1⟩ := strH_read Tryz.underlying9 (h1.trans (List.getElem?_eq_getElem (show 1 < xs.length by omega)))
      obtain ⟨x2, rfl, w2⟩ := strH_read Tryz.underlying9 (h2.trans (List.getElem?_eq_getElem (show 2 < xs.length by omega)))
      obtain ⟨x3, rfl, w3⟩ := strH_read Tryz.underlying9 (h3.trans (List.getElem?_eq_getElem (show 3 < xs.length by omega)))
      have u0 := wf_u64 w0
      exact ⟨⟨x0, x1, x2, x3⟩, rfl, HdrIn.mk ⟨u0.1, by have := u0.2; show x0 ≤ _; omega⟩ w1 w2 w3⟩) hv h
  refine ⟨a, c, l, rfl, h1, h2, fun i hi => ?_, fun i => ?_⟩
  · obtain ⟨_, b, off, e1, e2⟩ := h3 i hi
    rw [hnth_eq l i hi]
    exact ⟨b, off, e1, by have := e2 0 (by decide); rwa [Nat.add_zero] at this, e2 1 (by decide), e2 2 (by decide), e2 3 (by decide)⟩
  · rcases Nat.lt_or_ge i l.length with hi | hi
    · rw [hnth_eq l i hi]; exact (h3 i hi).1
    · have : hnth l i = Hdr.zero := by unfold hnth; rw [List.getD_eq_getElem?_getD, List.getElem?_eq_none hi]; rfl
      rw [this]; exact HdrIn.zero
end Go.Proofs.YtpobhbdomldecaaGreatDoor
namespace Go.Proofs.YtpobhbdomldecaaGreatDoor
open Go.RowKit Go.ChangeShapes Go.WideShapes Go.ChangeAt Go.Deep
set_option linter.unusedSimpArgs false
set_option linter.unusedVariables false
section
variable {P : Program} {H : Type} {enc : TypeId × Value → H} {w : World}
theorem boolT_read {n : Nat} {e : TypeId} {v : Value} {y : DataW H × List MemPlace} (he : P.underlying e = some .bool) (h : DataW.trod enc P w 0 (fun _ => true) true n e [v] = some y) : ∃ b : Bool, v = .bool b := by
  obtain ⟨b, hx, _⟩ := DataW.trod_bool he h
  exact ⟨b, by simpa using hx⟩
theorem nilT_cap {t e : TypeId} (ht : P.underlying t = some (.slice e)) {a : Option Addr} {n c : Nat} {d : DataW H} {p : List MemPlace} {r : Reach} {base : Nat} (hv : Value.okWide P w r base t (.slice a n c)) (h : DataW.Trod enc P w 0 (fun _ => true) true t (.slice a n c) d p) : a = none → c = 0 := by
  intro e
  subst e
  obtain ⟨fuel, hf⟩ := h
  rcases open_slice ht hf with ⟨hcs, _⟩ | ⟨a, n, c, m, q, D, Pl, hcs, _⟩
  · simp [Value.cells] at hcs; exact hcs.2
  · simp [Value.cells] at hcs
end
set_option maxRecDepth 100000 in
theorem open_turn23 {H : Type} {enc : TypeId × Value → H} {w : World} {v : Value} {d : DataW H} {p : List MemPlace} {r : Reach} {base : Nat} (hv : Value.okWide Tryz.prog w r base 60 v) (h : DataW.Trod enc Tryz.prog w 0 (fun _ => true) true 60 v d p) :
    ∃ (a : Nat) (y : ByteArray) (t : Bool), v = .agg #[.int .u8 (a : Nat), .string y, .bool t] ∧ a ≤ 255 ∧ y.size ≤ maxLen := by
  obtain ⟨cs', rfl, hsz⟩ := okWide_struct Tryz.underlying60 hv
  have hsz' : cs'.size = 3 := hsz.trans (by kernel_rfl)
  obtain ⟨l⟩ := cs'
  match l, hsz' with
  | [v0, v1, v2], _ =>
    obtain ⟨fuel, hf⟩ := h
    obtain ⟨xs, m, _, _, _, hxl, hx⟩ := DataW.trod_struct Tryz.underlying60 hf
    have hxl' : xs.length = 3 := hxl
    simp only [Value.cells] at hx
    have h0 : DataW.trod enc Tryz.prog w 0 (fun _ => true) true m 5 (([v0, v1, v2].drop 0).take (Tryz.prog.cellsOf 5)) = xs[0]? := hx 0 _ rfl
    rw [show Tryz.prog.cellsOf 5 = 1 by kernel_rfl] at h0
    have h1 : DataW.trod enc Tryz.prog w 0 (fun _ => true) true m 9 (([v0, v1, v2].drop 1).take (Tryz.prog.cellsOf 9)) = xs[1]? := hx 1 _ rfl
    rw [show Tryz.prog.cellsOf 9 = 1 by kernel_rfl] at h1
    have h2 : DataW.trod enc Tryz.prog w 0 (fun _ => true) true m 4 (([v0, v1, v2].drop 2).take (Tryz.prog.cellsOf 4)) = xs[2]? := hx 2 _ rfl
    rw [show Tryz.prog.cellsOf 4 = 1 by kernel_rfl] at h2
    obtain ⟨x0, rfl, w0⟩ := cell_read Tryz.underlying5 (h0.trans (List.getElem?_eq_getElem (show 0 < xs.length by omega)))
    obtain ⟨x1, rfl, w1⟩ := strH_read Tryz.underlying9 (h1.trans (List.getElem?_eq_getElem (show 1 < xs.length by omega)))
    obtain ⟨x2, rfl⟩ := boolT_read Tryz.underlying4 (h2.trans (List.getElem?_eq_getElem (show 2 < xs.length by omega)))
    have u0 := wf_u8 w0
    obtain ⟨A, rfl⟩ := Int.eq_ofNat_of_zero_le u0.1
    exact ⟨A, x1, x2, rfl, by have := u0.2; omega, w1⟩
end Go.Proofs.YtpobhbdomldecaaGreatDoor
namespace Go.Proofs.YtpobhbdomldecaaGreatDoor
set_option linter.unusedSimpArgs false
set_option linter.unusedVariables false
open Go.RowKit Go.ChangeShapes Go.WideShapes Go.ChangeAt
def rowD5 (r : PRow) : DataW Unit := .agg [.lit (.int .u64 r.below), .lit (.int .u8 r.first), .lit (.int .i64 r.size)]
set_option maxRecDepth 100000 in
theorem laid_prow {w : World} {fuel : Nat} {cs' : List Value} {r : PRow} {q : List MemPlace} (hl : cs'.length = 3) (h : DataW.trod (fun _ => ()) Tryz.prog w 0 (fun _ => true) false fuel 336 cs' = some (rowD5 r, q)) : cs' = r.cells := by
  match cs', hl with
  | [v0, v1, v2], _ =>
    obtain ⟨xs, m, _, e, _, hxl, hx⟩ := DataW.trod_struct Tryz.underlying336 h
    have cu : Tryz.prog.cellsOf 5 = 1 := by kernel_rfl
    have ci : Tryz.prog.cellsOf 3 = 1 := by kernel_rfl
    have cq : Tryz.prog.cellsOf 23 = 1 := by kernel_rfl
    have hxl' : xs.length = 3 := hxl
    have h0 : DataW.trod (fun _ => ()) Tryz.prog w 0 (fun _ => true) false m 23 (([v0, v1, v2].drop 0).take (Tryz.prog.cellsOf 23)) = xs[0]? := hx 0 _ rfl
    have h1 : DataW.trod (fun _ => ()) Tryz.prog w 0 (fun _ => true) false m 5 (([v0, v1, v2].drop 1).take (Tryz.prog.cellsOf 5)) = xs[1]? := hx 1 _ rfl
    have h2 : DataW.trod (fun _ => ()) Tryz.prog w 0 (fun _ => true) false m 3 (([v0, v1, v2].drop 2).take (Tryz.prog.cellsOf 3)) = xs[2]? := hx 2 _ rfl
    rw [cq] at h0
    rw [cu] at h1
    rw [ci] at h2
    match xs, hxl' with
    | [x0, x1, x2], _ =>
      obtain ⟨n0, e0, y0, _⟩ := DataW.trod_int Tryz.underlying23 (show DataW.trod (fun _ => ()) Tryz.prog w 0 (fun _ => true) false m 23 [v0] = some x0 from h0)
      obtain ⟨n1, e1, y1, _⟩ := DataW.trod_int Tryz.underlying5 (show DataW.trod (fun _ => ()) Tryz.prog w 0 (fun _ => true) false m 5 [v1] = some x1 from h1)
      obtain ⟨n2, e2, y2, _⟩ := DataW.trod_int Tryz.underlying3 (show DataW.trod (fun _ => ()) Tryz.prog w 0 (fun _ => true) false m 3 [v2] = some x2 from h2)
      subst y0 y1 y2
      simp [rowD5] at e e0 e1 e2
      obtain ⟨⟨a0, a1, a2⟩, _⟩ := e
      subst e0 e1 e2
      unfold PRow.cells
      rw [a0, a1, a2]
set_option maxRecDepth 100000 in
theorem laid_prows {w : World} {fuel : Nat} {cs : List Value} {l : List PRow} {p : List MemPlace} (h : DataW.trod (fun _ => ()) Tryz.prog w 0 (fun _ => true) false fuel 338 cs = some (.slice (l.map rowD5) [], p)) (hl : 0 < len l) :
    ∃ tb tq rc, cs = [.slice (some ⟨tb, tq, none⟩) (len l) rc] ∧ PRows w (some ⟨tb, tq, none⟩) l := by
  have hC : Tryz.prog.cellsOf 336 = 3 := by kernel_rfl
  rcases Go.Deep.open_slice Tryz.underlying338 h with ⟨_, hx⟩ | ⟨a, n, c, m, q, D, Pl, hcs, _, hln, hm, hmm, hx, hi⟩
  · simp at hx
  · simp only [Prod.mk.injEq, DataW.slice.injEq] at hx
    obtain ⟨⟨hD, _⟩, _⟩ := hx
    have hn : len l = n := by have := congrArg List.length hD; simpa [len] using this
    have hnm : n ≤ m := by rw [hmm]; simp; exact hln
    have each : ∀ i, i < len l → ∃ b off, a = ⟨b, off, none⟩ ∧ PRowAt w b (off + i * 3) (prth l i) := fun i hil => by
      obtain ⟨cs', hc, htr⟩ := hi i (by omega)
      rw [hC] at hc
      obtain ⟨_, hcl, hat⟩ := World.cells?_some hc
      have hDi : D i = rowD5 (prth l i) := by
        have h1 : (l.map rowD5)[i]? = ((List.range n).map D)[i]? := by rw [hD]
        have hil' : i < l.length := hil
        rw [List.getElem?_map, List.getElem?_map, List.getElem?_eq_getElem hil', List.getElem?_range (by omega)] at h1
        rw [prth_eq l i hil]
        exact (Option.some.inj h1).symm
      rw [hDi] at htr
      have hcs' := laid_prow hcl htr
      obtain ⟨b, off, spot⟩ := a
      have hat0 := hat 0 (by decide)
      rw [hcs'] at hat
      have hspot : spot = none := by
        obtain ⟨cs0, hc0, htr0⟩ := hi 0 (by omega)
        rw [hC] at hc0
        obtain ⟨_, hcl0, hat0⟩ := World.cells?_some hc0
        have h1 := hat0 0 (by decide)
        have h2 : cs0[0]? = some (cs0[0]'(by omega)) := List.getElem?_eq_getElem (by omega)
        rw [h2] at h1
        simpa [Addr.add] using World.cell?_spot h1
      subst hspot
      have key : ∀ j, j < 3 → w.cell? ⟨b, off + i * 3 + j, none⟩ = (prth l i).cells[j]? := fun j hj => by
        have h1 := hat j hj
        rw [Go.Deep.add_add] at h1
        have e : (⟨b, off, none⟩ : Addr).add (i * 3 + j) = ⟨b, off + i * 3 + j, none⟩ := by
          unfold Addr.add; split
          · rename_i h0; simp <;> omega
          · simp [Nat.add_assoc]
        rw [e] at h1; exact h1
      exact ⟨b, off, rfl, key 0 (by decide), key 1 (by decide), key 2 (by decide)⟩
    obtain ⟨b, off, rfl, _⟩ := each 0 hl
    refine ⟨b, off, c, by rw [hn]; exact hcs, fun i hil => ?_⟩
    obtain ⟨b', off', e, hR⟩ := each i hil
    cases e
    exact ⟨b, off, rfl, hR⟩
def tabD5 : DataW Unit := .agg ([0, 1, 2, 3, 4].map fun k => .slice ((hrowsP k).map rowD5) [])
set_option maxRecDepth 100000 in
theorem ptab_of {W : World} {g : Nat} {cs : Array Value} {fuel : Nat} {p : List MemPlace} (hgg : g = 5) (hg : Tryz.prog.globalNamed "sextant/pack.rows" = some g) (hv : W.var? Tryz.prog "sextant/pack.rows" = some cs)
    (h : DataW.trod (fun _ => ()) Tryz.prog W 0 (fun _ => true) false fuel 339 cs.toList = some (tabD5, p)) : PTab W.heap.size W := by
  obtain ⟨xs, m, _, e, hcl, hxl, hx⟩ := DataW.trod_array Tryz.underlying339 h
  have hC : Tryz.prog.cellsOf 338 = 1 := by kernel_rfl
  have hC5 : Tryz.prog.cellsOf 339 = 5 := by kernel_rfl
  rw [hC5] at hcl
  rw [hC] at hx
  have hd : tabD5 = .agg (xs.map (·.1)) := congrArg Prod.fst e
  unfold tabD5 at hd
  have hd2 : ([0, 1, 2, 3, 4].map fun k => (DataW.slice ((hrowsP k).map rowD5) [] : DataW Unit)) = xs.map (·.1) := by injection hd
  subst hgg
  have key : ∀ k, k < 5 → ∃ tb tq rc, cs[k]? = some (.slice (some ⟨tb, tq, none⟩) (len (hrowsP k)) rc) ∧ PRows W (some ⟨tb, tq, none⟩) (hrowsP k) := fun k hk => by
    have hxk : k < xs.length := by omega
    have h1 := hx k hk
    rw [List.getElem?_eq_getElem hxk] at h1
    have h2 : (xs[k]'hxk).1 = .slice ((hrowsP k).map rowD5) [] := by
      have h3 : (xs.map (·.1))[k]? = some (xs[k]'hxk).1 := by rw [List.getElem?_map, List.getElem?_eq_getElem hxk]; rfl
      rw [← hd2, List.getElem?_map] at h3
      have h4 : [0, 1, 2, 3, 4][k]? = some k := by
        have : k = 0 ∨ k = 1 ∨ k = 2 ∨ k = 3 ∨ k = 4 := by omega
        rcases this with rfl | rfl | rfl | rfl | rfl <;> rfl
      rw [h4] at h3
      exact (Option.some.inj h3).symm
    have h5 : DataW.trod (fun _ => ()) Tryz.prog W 0 (fun _ => true) false m 338 ((cs.toList.drop (k * 1)).take 1) = some (.slice ((hrowsP k).map rowD5) [], (xs[k]'hxk).2) := by rw [h1, ← h2]
    obtain ⟨tb, tq, rc, hcs, hr⟩ := laid_prows h5 (rowsP_pos k)
    refine ⟨tb, tq, rc, ?_, hr⟩
    have h6 : ((cs.toList.drop (k * 1)).take 1)[0]? = some (.slice (some ⟨tb, tq, none⟩) (len (hrowsP k)) rc) := by rw [hcs]; rfl
    rw [List.getElem?_take, if_pos (by decide), List.getElem?_drop] at h6
    simpa using h6
  have hlt : 5 < W.heap.size := by
    obtain ⟨tb, tq, rc, h1, h2⟩ := key 0 (by decide)
    have := World.var?_cell hg hv 0
    exact lt_of_cell (this.trans h1)
  refine ⟨hlt, Nat.le_refl _, fun k hk => ?_⟩
  obtain ⟨tb, tq, rc, h1, h2⟩ := key k hk
  refine ⟨tb, tq, rc, ?_, (World.var?_cell hg hv k).trans h1, h2⟩
  obtain ⟨b, off, e, hR⟩ := h2 0 (rowsP_pos k)
  cases e
  exact lt_of_cell hR.c0
end Go.Proofs.YtpobhbdomldecaaGreatDoor
namespace Go.Proofs.YtpobhbdomldecaaGreatDoor
set_option linter.unusedSimpArgs false
set_option linter.unusedVariables false
open Go.RowKit Go.ChangeShapes Go.WideShapes Go.ChangeAt
set_option maxRecDepth 100000 in
theorem of_laidHd {W : World} (h : laidMetH Tryz.prog Rows.headerRootsRow.laid W) : PT W.heap.size W := by
  have h' : laidMet Tryz.prog Rows.headerRootsRow.laid W := h
  obtain ⟨ps, ⟨g0, t0, cs0, f0, p0, q0, hg0, ht0, hv0, hd0, _⟩, _⟩ := h'
  obtain rfl : 5 = g0 := Option.some.inj ((show _ = some 5 by kernel_rfl).symm.trans hg0)
  obtain rfl : 339 = t0 := Option.some.inj ((show _ = some 339 by kernel_rfl).symm.trans ht0)
  exact ⟨ptab_of rfl hg0 hv0 hd0, Nat.le_refl _⟩
end Go.Proofs.YtpobhbdomldecaaGreatDoor
namespace Go.Proofs.YtpobhbdomldecaaGreatDoor.hchain
set_option linter.unusedSimpArgs false
set_option linter.unusedVariables false
open Go.RowKit Go.ChangeShapes Go.WideShapes Go.ChangeAt
theorem door_met (os : Os) (args : Array Value) : laidMetH Tryz.prog Rows.headerChainRow.laid ((World.doorLaid Tryz.prog 72 os).forCall (fun _ _ => 0) ⟨#[], args, []⟩).memory :=
  laidMetH_of_parts3 (fuel := 8) (laidMet_of_run' 8 (by kernel_rfl) (by kernel_rfl)) (by kernel_rfl) (by kernel_rfl)
set_option maxRecDepth 100000 in
theorem lifted (os : Os) (started : os.Started) (H : Type) (enc : TypeId × Value → H) :
    ReturnsInHanded {} Tryz.checked os 8 .any (fun w args => (Rows.headerChainSpec.pre enc Tryz.prog Tryz.f8 [] false w args ∧ laidMetH Tryz.prog Rows.headerChainRow.laid w) ∧ sizedMet enc Tryz.prog Tryz.f8 (OpenSpec.ofChange Rows.headerChainSpec) false w args)
      (Rows.headerChainSpec.post enc Tryz.prog Tryz.f8 false true false false) := by
  refine returnsInHanded_of_change_and (C := Tryz.checked) (X := fun w _ => laidMetH Tryz.prog Rows.headerChainRow.laid w) (fun _ _ _ hh h => h.of_heap hh) own started (by kernel_rfl) Tryz.func8
    (ChangeSpec.witness_shaped (enc := enc) (C := Tryz.checked) (os := os) (X := fun w _ => laidMetH Tryz.prog Rows.headerChainRow.laid w) false (World.doorLaid Tryz.prog 72 os) #[.slice none 0 0, .int .u64 0, .agg #[.int .u8 0, .string ⟨#[]⟩, .bool false]] 8 rfl (World.shaped_of_RefB (by kernel_rfl) (by kernel_rfl)) (by kernel_rfl) (by kernel_rfl) (by kernel_rfl) (door_met os _)) ?_
  intro W base args ds gs before hval0 hW _ _ hL _
  have hval : ∀ (j : Nat) t v, Tryz.f8.params[j]? = some t → args[j]? = some v → Value.okWide Tryz.prog W .any base t v := hval0
  have hW' := hW
  obtain ⟨p, q, hA0, hV, rfl, hfz, hnd⟩ := hW
  have hA : DataW.TrodAll enc Tryz.prog W 0 (fun _ => true) true Tryz.f8.params.toList args.toList ds p := hA0
  rw [Tryz.params8] at hA hval
  have hAA := hA
  obtain ⟨v0, vs0, d0, ds0, p0, q0, hargs, rfl, rfl, h0, r0⟩ := trodAll_cons hA
  obtain ⟨v1, vs1, d1, ds1, p1, q1, rfl, rfl, rfl, h1, r1⟩ := trodAll_cons r0
  obtain ⟨v2, vs2, d2, ds2, p2, q2, rfl, rfl, rfl, h2, r2⟩ := trodAll_cons r1
  obtain ⟨rfl, rfl, rfl⟩ := trodAll_nil r2
  obtain rfl : args = #[v0, v1, v2] := by cases args; simp_all
  obtain ⟨rfl, rfl⟩ := trodVars_none hV
  obtain ⟨a0, c0, l0, rfl, lc0, cm0, o0, k0⟩ := open_hdrs (hval 0 _ _ rfl rfl) h0
  have n0 := nilT_cap Tryz.underlying22 (hval 0 _ _ rfl rfl) h0
  obtain ⟨x1, rfl, _, _, w1⟩ := open_int Tryz.underlying23 (hval 1 _ _ rfl rfl) h1
  have u1 := wf_u64 w1
  obtain ⟨A, rfl⟩ := Int.eq_ofNat_of_zero_le u1.1
  obtain ⟨tat, ttx, tpv, rfl, z0, z1⟩ := open_turn23 (hval 2 _ _ rfl rfl) h2
  have hT := of_laidHd (show laidMetH Tryz.prog Rows.headerRootsRow.laid W from hL)
  unfold maxLen at cm0 z1
  clear hA0 hval0
  refine (chain23_law W.heap.size l0 a0 c0 A tat ttx tpv W hT lc0 cm0 n0 o0 (fun i => ⟨Nat.le_trans (k0 i).p (by decide), Nat.le_trans (k0 i).t (by decide), Nat.le_trans (k0 i).s (by decide)⟩) (fun i => (k0 i).n) (by omega) z0 z1).mono fun e W' ⟨he, bel⟩ => ?_
  subst he
  have hback := below_trodAll laidOut bel (fun t ht => ⟨by revert t; exact of_decide_eq_true (by kernel_rfl), by revert t; exact of_decide_eq_true (by kernel_rfl)⟩) hAA
  exact ⟨_, rfl, _, _, _, [], _, [], hW', trodAll_mk1 (shut_bool Tryz.underlying4 _), hback, rfl, bel.frame _, fun h => by cases h⟩
end Go.Proofs.YtpobhbdomldecaaGreatDoor.hchain
