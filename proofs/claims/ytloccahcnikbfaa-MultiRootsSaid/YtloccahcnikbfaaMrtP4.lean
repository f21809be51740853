/- Parts of the proof, one behind the other. -/
import Derived.Test.YtloccahcnikbfaaMrtP3
import Derived.ProofKit
import Derived.OpenShut
import Derived.ShutString
import Derived.ChangeOld
import Derived.Deep.Slices
import Derived.Deep.Fields
import Derived.ChangeMaps5
namespace Go.Proofs.Ytloccahcnikbfaa
open Go.RowKit
set_option linter.unusedSimpArgs false
set_option linter.unusedVariables false
theorem row_le (lv : List Int) (d i : Nat) : len (rnth (rowsOf lv d) i) ≤ len lv := by
  by_cases h : i < d
  · rw [rowsOf_at lv d i h, len_eq, rowK_len]
    unfold needK
    have h1 := (insAll_all (((insAll (lv.map (· / 2 ^ i))).map sib).filter fun s => !decide (s ∈ insAll (lv.map (· / 2 ^ i))))).2.2
    have h2 := List.length_filter_le (fun s => !decide (s ∈ insAll (lv.map (· / 2 ^ i)))) ((insAll (lv.map (· / 2 ^ i))).map sib)
    have h3 := (insAll_all (lv.map (· / 2 ^ i))).2.2
    rw [List.length_map] at h2 h3
    have h4 : len lv = lv.length := rfl
    omega
  · have e : rnth (rowsOf lv d) i = [] := by
      unfold rnth
      rw [List.getD_eq_getElem?_getD, List.getElem?_eq_none (by unfold rowsOf; simp; omega)]
      rfl
    rw [e]
    exact Nat.zero_le _
theorem plc_le {n d : Nat} {ps : List Int} (hz : depthZ (n : Nat) = (d : Nat)) (hd : d ≤ 16) (h0 : 0 < len ps) : (plcL (n : Nat) ps).length ≤ d * len ps := by
  unfold plcL
  rw [hz, needs_rows hd h0]
  have h1 : (flatLv (rowsOf (leavesL ps (d : Nat)) d)).length = usedR (rowsOf (leavesL ps (d : Nat)) d) (len (rowsOf (leavesL ps (d : Nat)) d)) := by
    rw [← flatAt_end, flat_used _ _ (Nat.le_refl _)]
  have h2 := usedR_le2 (rs := rowsOf (leavesL ps (d : Nat)) d) (M := len ps) (fun i => by have := row_le (leavesL ps (d : Nat)) d i; rw [leavesL_len] at this; exact this) _ (Nat.le_refl _)
  rw [h1]
  rw [rowsOf_len] at h2 ⊢
  exact h2
theorem own_cap {w : World} {base n c : Nat} {a : Option Addr} {xs : List Value} {m : Nat} (h : w.ownsRow base 9 1 (.slice a m c) n xs) : m ≤ c := by
  rcases h.2 with ⟨e, _⟩ | ⟨g, cap, cur, e, _, _, h3, _⟩
  · injection e with _ e2 e3; omega
  · injection e with _ e2 e3; omega
set_option maxRecDepth 100000 in
set_option maxHeartbeats 8000000 in
theorem mroots_law (l : List ByteArray) (a0 : Option Addr) (c0 : Nat) (A : Nat) (w : World) (hl : Txts w a0 l) (hn : len l ≤ 9223372036854775807) (hA : A < 18446744073709551616) :
    Calls Try.prog 8 #[.slice a0 (len l) c0, .int .u64 (A : Nat)] w fun e w' => e = .returned (.bool true) ∧ Below w.heap.size w w' := by
  have HL := Lib.hid hl
  have HN := Lib.hid hn
  have HA := Lib.hid hA
  clear hl hn hA
  go_enter Try.func8, Try.ntmps8
  go_wp2_with fail
  refine (works10_any w).mono ?_
  rintro e w1 ⟨rfl, hb1⟩
  have HB1 := Lib.hid hb1
  clear hb1
  go_wp2_with fail
  refine (few_any l a0 c0 w1 (HL.out.below HB1.out) HN.out).mono ?_
  rintro e w2 ⟨v, L, rfl, hown, h40, hsz, hb2⟩
  obtain ⟨a, c, rfl, htx⟩ := own_txts hown
  have HB2 : Hid (Below w.heap.size w w2) := Lib.hid (bnext HB1.out hb2)
  have HTX := Lib.hid htx
  have HSZ : Hid (∀ j, j < len L → (tth L j).size ≤ 1000000) := Lib.hid (fun j hj => by
    rw [tth_eq L j hj]
    have := hsz _ (List.getElem_mem (show j < L.length from hj)); omega)
  have H40 := Lib.hid h40
  clear hown hb2 htx hsz h40 HB1
  go_wp2_with fail
  refine (build_any L a c w2 HTX.out (by have := H40.out; omega) (fun j hj => by have := HSZ.out j hj; omega)).mono ?_
  rintro e w3 ⟨b, rfl, hbs, htr, hb3⟩
  have HT3 := Lib.hid htr
  have HTX3 := Lib.hid (HTX.out.below hb3)
  have HB3 : Hid (Below w.heap.size w w3) := Lib.hid (bnext HB2.out hb3)
  clear htr hb3 hbs HTX HB2
  go_wp2_with fail
  refine (rising_any (len L) A w3 (by have := H40.out; omega) HA.out).mono ?_
  rintro e w4 ⟨vp, rfl, ho4, hb4⟩
  obtain ⟨ap, cp, rfl, hp4, hcp1, hcp2⟩ := own_u64 ho4
  obtain ⟨P, hP⟩ : ∃ P, risL (len L) A = P := ⟨_, rfl⟩
  have HU : Hid (∀ k ∈ P, U64 k) := Lib.hid (by rw [← hP]; exact ris_u64 (len L) A (by have := H40.out; omega))
  have HLP : Hid (len P ≤ 40) := Lib.hid (by have h1 := risL_le (len L) A; rw [hP] at h1; have := H40.out; omega)
  have HMY : Hid (0 < len P → MayOk (len L : Nat) P) := Lib.hid (by rw [← hP]; exact ris_may (len L) A)
  rw [hP] at hp4 ⊢
  have HP4 := Lib.hid hp4
  have HB4 : Hid (Below w.heap.size w w4) := Lib.hid (bnext HB3.out hb4)
  have HT4 := Lib.hid (HT3.out.below hb4)
  have HTX4 := Lib.hid (HTX3.out.below hb4)
  clear ho4 hp4 hb4 hP hcp1 hcp2 HT3 HTX3 HB3
  by_cases hz : len P = 0
  · have hbad : ¬ MayOk (len L : Nat) P := fun h9 => by have := h9.1; omega
    have HPR := Lib.hid (prove_bad L b P ap cp w4 HT4.out (by have := H40.out; omega) HP4.out (by have := HLP.out; omega) hbad)
    have HSI := Lib.hid (fun w9 hb9 => msize_bad (len L : Nat) P ap cp w9 (HP4.out.below hb9) (by have := HLP.out; omega) (by omega) (by have := H40.out; omega) (fun h9 => hbad h9.2.2))
    have HSN : Hid (sizeN (len L : Nat) P = 0 ∧ sizeE (len L : Nat) P = 2) := Lib.hid ⟨if_neg (fun h9 => hbad h9.2.2), if_neg (fun h9 => hbad h9.2.2)⟩
    have HZ := Lib.hid hz
    clear hz hbad
    go_wp2_with fail
    refine HPR.out.mono ?_
    rintro e w5 ⟨v5, rfl, ho5, hb5⟩
    obtain ⟨a5, c5, rfl, hp5⟩ := own_txts ho5
    have HB5 := Lib.hid hb5
    clear ho5 hp5 hb5
    go_wp2_with fail
    refine (HSI.out w5 HB5.out).mono ?_
    rintro e w6 ⟨rfl, hb6⟩
    rw [HSN.out.1, HSN.out.2]
    have HB6 : Hid (Below w.heap.size w w6) := Lib.hid (bnext (bnext HB4.out HB5.out) hb6)
    clear hb6
    have z1 : ((len P : Nat) : Int) = 0 := by have := HZ.out; omega
    have z2 : (((len P : Nat) : Int) == 0) = true := by simp; have := HZ.out; omega
    have z3 : len ([] : List ByteArray) = 0 := rfl
    rw [z3]
    go_wp2
    go_ret
    exact ⟨by first | rfl | simp, HB6.out⟩
  · have hmay := HMY.out (by omega)
    obtain ⟨d, hdd⟩ : ∃ d, depN L = d := ⟨_, rfl⟩
    have hn40 := H40.out
    have HD16 : Hid (d ≤ 16) := Lib.hid (by rw [← hdd]; exact depN_le (by omega))
    have HPR := Lib.hid (prove_ok L b P ap cp w4 HT4.out (by omega) HP4.out (by have := HLP.out; omega) HU.out hmay)
    have HSI := Lib.hid (fun w9 hb9 => msize_ok (len L : Nat) P ap cp w9 (HP4.out.below hb9) (by have := HLP.out; omega) HU.out ⟨by omega, by omega, hmay⟩)
    have HSN : Hid (sizeN (len L : Nat) P = ((plcL (len L : Nat) P).length : Nat) ∧ sizeE (len L : Nat) P = 0) := Lib.hid ⟨if_pos ⟨by omega, by omega, hmay⟩, if_pos ⟨by omega, by omega, hmay⟩⟩
    have HLE : Hid ((plcL (len L : Nat) P).length ≤ d * len P) := Lib.hid (plc_le (by rw [depthZ_len (by omega), hdd]) HD16.out (by omega))
    have HDN : Hid (len (dgsL L (plcL (len L : Nat) P)) = (plcL (len L : Nat) P).length) := Lib.hid (dgs_len _ _)
    have HNZ : Hid (¬ len P = 0) := Lib.hid hz
    have HMO := Lib.hid hmay
    clear hz hmay hn40
    go_wp2_with fail
    refine HPR.out.mono ?_
    rintro e w5 ⟨v5, rfl, ho5, hb5⟩
    obtain ⟨a5, c5, rfl, hp5⟩ := own_txts ho5
    have HC5 := Lib.hid (own_cap ho5)
    have HD5 := Lib.hid hp5
    have HX5 := Lib.hid hb5
    clear ho5 hp5 hb5
    go_wp2_with fail
    refine (HSI.out w5 HX5.out).mono ?_
    rintro e w6 ⟨rfl, hb6⟩
    rw [HSN.out.1, HSN.out.2]
    have HX6 : Hid (Below w4.heap.size w4 w6) := Lib.hid (bnext HX5.out hb6)
    have HD6 := Lib.hid (HD5.out.below hb6)
    have HT6 := Lib.hid (HT4.out.below HX6.out)
    have HTX6 := Lib.hid (HTX4.out.below HX6.out)
    have HP6 := Lib.hid (HP4.out.below HX6.out)
    have HB6 : Hid (Below w.heap.size w w6) := Lib.hid (bnext HB4.out HX6.out)
    have HDP := Lib.hid (tdepth_any L b w6 HT6.out)
    rw [hdd] at HDP
    have HRT := Lib.hid (root10_any L P ap a a5 cp c c5 w6 HP6.out HTX6.out (by have := H40.out; omega) HSZ.out (by have := HLP.out; omega) HU.out HMO.out HD6.out HC5.out)
    have HRO := Lib.hid (fun w9 hb9 => root_any L b w9 (HT6.out.below hb9))
    rw [HDN.out] at HRT ⊢
    obtain ⟨N, hN⟩ : ∃ N, (plcL (len L : Nat) P).length = N := ⟨_, rfl⟩
    obtain ⟨X9, hX9⟩ : ∃ X9, plD L (depN L) (depN L) 0 = X9 := ⟨_, rfl⟩
    rw [hN] at HLE HRT ⊢
    rw [hX9] at HRT HRO
    obtain ⟨q, hq⟩ : ∃ q, d * len P = q := ⟨_, rfl⟩
    rw [hq] at HLE
    have hq2 : q ≤ 16 * 40 := by rw [← hq]; exact Nat.mul_le_mul HD16.out HLP.out
    have hnq := HLE.out
    have z1 : ¬ ((len P : Nat) : Int) = 0 := by have := HNZ.out; omega
    have z2 : (((len P : Nat) : Int) == 0) = false := by simp; have := HNZ.out; omega
    have m1 : IntKind.i64.wrap (((d : Nat) : Int) * ((len P : Nat) : Int)) = ((q : Nat) : Int) := by
      rw [show ((d : Nat) : Int) * ((len P : Nat) : Int) = ((q : Nat) : Int) by rw [← hq]; simp]
      exact IntWalk.i64_in _ (by omega)
    have f1 : ¬ ((q : Nat) : Int) < ((N : Nat) : Int) := by omega
    clear hb6 hdd hN hX9 hq hq2 hnq HSI HPR HSN HDN
    go_wp2_with fail
    refine HDP.out.mono ?_
    rintro e w7 ⟨rfl, rfl⟩
    go_wp2_with fail
    refine HRT.out.mono ?_
    rintro e w7 ⟨rfl, hb7⟩
    have HB7 := Lib.hid hb7
    clear hb7 z1 z2 m1 f1
    go_wp2_with fail
    refine (HRO.out w7 HB7.out).mono ?_
    rintro e w8 ⟨rfl, rfl⟩
    have e1 : (X9.toList == X9.toList) = true := by rw [str_beq]; exact decide_eq_true rfl
    go_wp2
    go_ret
    exact ⟨by first | rfl | simp, bnext HB6.out HB7.out⟩
end Go.Proofs.Ytloccahcnikbfaa
namespace Go.Proofs.Ytloccahcnikbfaa
set_option linter.unusedSimpArgs false
set_option linter.unusedVariables false
open Go.RowKit Go.ChangeShapes Go.WideShapes Go.ChangeAt Go.Deep
section
variable {H : Type} {enc : TypeId × Value → H} {P : Program} {w : World}
theorem below_trodAll (hl : laidOutB P = true) {W W' : World} (hb : Below W.heap.size W W') : ∀ {ts : List TypeId} {vs : List Value} {ds : List (DataW H)} {ps : List MemPlace},
    (∀ t ∈ ts, P.readableRec t = true ∧ t < P.types.size) → DataW.TrodAll enc P W 0 (fun _ => true) true ts vs ds ps → DataW.TrodAll enc P W' 0 (fun b => decide (b < W.heap.size)) true ts vs ds ps
  | [], vs, ds, ps, _, h => by
    obtain ⟨rfl, rfl, rfl⟩ := trodAll_nil h
    exact trodAll_mk0
  | t :: ts, vs, ds, ps, ht, h => by
    obtain ⟨v, vs', d, ds', p, q, rfl, rfl, rfl, h0, r0⟩ := trodAll_cons h
    have lt0 : ∀ x ∈ p, x.block < W.heap.size := by obtain ⟨m, hm⟩ := h0; exact DataW.trod_lt m _ _ _ hm
    exact trodAll_cons_mk (Below.trod hl (ht t (List.mem_cons_self ..)).1 (ht t (List.mem_cons_self ..)).2 h0 hb lt0) (below_trodAll hl hb (fun t' h' => ht t' (List.mem_cons_of_mem _ h')) r0)
theorem list_of {α : Type} {n : Nat} {p : Nat → α → Prop} (h : ∀ i, i < n → ∃ x, p i x) : ∃ l : List α, l.length = n ∧ ∀ i (hi : i < l.length), p i l[i] := by
  induction n with
  | zero => exact ⟨[], rfl, fun i hi => by simp at hi⟩
  | succ n ih =>
    obtain ⟨l, hl, hp⟩ := ih (fun i hi => h i (by omega))
    obtain ⟨x, hx⟩ := h n (by omega)
    refine ⟨l ++ [x], by simp [hl], fun i hi => ?_⟩
    rcases Nat.lt_or_ge i l.length with h' | h'
    · rw [List.getElem_append_left h']; exact hp i h'
    · have e : i = l.length := by simp at hi; omega
      subst e
      simp only [List.getElem_append_right (Nat.le_refl _), Nat.sub_self, List.getElem_cons_zero]
      rw [hl]; exact hx
theorem open_elems {α : Type} {t e : TypeId} (k : Nat) (cells : α → List Value) (ok : α → Prop) (ht : P.underlying t = some (.slice e)) (hC : P.cellsOf e = k) (hk : 0 < k)
    (hel : ∀ n cs' y, cs'.length = k → DataW.trod enc P w 0 (fun _ => true) true n e cs' = some y → ∃ x, cs' = cells x ∧ ok x)
    {v : Value} {d : DataW H} {p : List MemPlace} {r : Reach} {base : Nat} (hv : Value.okWide P w r base t v) (h : DataW.Trod enc P w 0 (fun _ => true) true t v d p) :
    ∃ a c, ∃ l : List α, v = .slice a (len l) c ∧ len l ≤ c ∧ c ≤ maxLen ∧ ∀ i (hi : i < l.length), ok l[i] ∧ ∃ b off, a = some ⟨b, off, none⟩ ∧ ∀ j, j < k → w.cell? ⟨b, off + i * k + j, none⟩ = (cells l[i])[j]? := by
  obtain ⟨a0, n0, c0, rfl⟩ := okWide_slice ht hv
  obtain ⟨fuel, hf⟩ := h
  rcases open_slice ht hf with ⟨hcs, _⟩ | ⟨a, n, c, m, q, D, Pl, hcs, _, hl, hm, hmm, _, hi⟩
  · simp [Value.cells] at hcs
    obtain ⟨rfl, rfl, rfl⟩ := hcs
    exact ⟨none, 0, [], rfl, Nat.le_refl _, Nat.zero_le _, fun i hi => by simp at hi⟩
  · simp [Value.cells] at hcs
    obtain ⟨rfl, rfl, rfl⟩ := hcs
    have hnm : n0 ≤ m := by rw [hmm]; simp; exact hl
    have each : ∀ i, i < n0 → ∃ x, ok x ∧ ∃ b off, some a = some ⟨b, off, none⟩ ∧ ∀ j, j < k → w.cell? ⟨b, off + i * k + j, none⟩ = (cells x)[j]? := by
      intro i hin
      obtain ⟨cs', hc, htr⟩ := hi i (by omega)
      rw [hC] at hc
      obtain ⟨_, hcl, hat⟩ := World.cells?_some hc
      obtain ⟨x, rfl, hx⟩ := hel q cs' _ hcl htr
      obtain ⟨b, off, spot⟩ := a
      have hspot : spot = none := by
        obtain ⟨cs0, hc0, htr0⟩ := hi 0 (by omega)
        rw [hC] at hc0
        obtain ⟨_, hcl0, hat0⟩ := World.cells?_some hc0
        have h1 := hat0 0 hk
        have h2 : cs0[0]? = some (cs0[0]'(by omega)) := List.getElem?_eq_getElem (by omega)
        rw [h2] at h1
        simpa [Addr.add] using World.cell?_spot h1
      subst hspot
      refine ⟨x, hx, b, off, rfl, fun j hj => ?_⟩
      have h1 := hat j hj
      rw [Go.Deep.add_add] at h1
      have e : (⟨b, off, none⟩ : Addr).add (i * k + j) = ⟨b, off + i * k + j, none⟩ := by
        unfold Addr.add; split
        · rename_i h0; simp <;> omega
        · simp [Nat.add_assoc]
      rw [e] at h1; exact h1
    obtain ⟨l, hll, hp⟩ := list_of each
    subst hll
    exact ⟨some a, c0, l, rfl, hl, hm, hp⟩
theorem wf_u64 {x : Int} (h : (Lit.int .u64 x).wf = true) : 0 ≤ x ∧ x < 18446744073709551616 := by
  simp [Lit.wf, IntKind.min, IntKind.max, IntKind.bits, IntKind.signed] at h; omega
end
end Go.Proofs.Ytloccahcnikbfaa
namespace Go.Proofs.Ytloccahcnikbfaa
set_option linter.unusedSimpArgs false
set_option linter.unusedVariables false
open Go.RowKit Go.ChangeShapes Go.WideShapes Go.ChangeAt
theorem own : ownKnob Try.prog.godebug = none := by kernel_rfl
theorem laidOut : laidOutB Try.prog = true := by kernel_rfl
end Go.Proofs.Ytloccahcnikbfaa
namespace Go.Proofs.Ytloccahcnikbfaa
set_option linter.unusedSimpArgs false
set_option linter.unusedVariables false
open Go.RowKit Go.ChangeShapes Go.WideShapes Go.ChangeAt Go.ChangeMaps
section
variable {P : Program} {H : Type} {enc : TypeId × Value → H} {w : World}
theorem str_readx {n : Nat} {e : TypeId} {v : Value} {y : DataW H × List MemPlace} (he : P.underlying e = some .string) (h : DataW.trod enc P w 0 (fun _ => true) true n e [v] = some y) : ∃ s : ByteArray, v = .string s ∧ s.size ≤ maxLen := by
  obtain ⟨s, hx, _, hw⟩ := DataW.trod_string he h
  exact ⟨s, by simpa using hx, hw⟩
theorem open_txts {t e : TypeId} (ht : P.underlying t = some (.slice e)) (he : P.underlying e = some .string) (hC : P.cellsOf e = 1)
    {v : Value} {d : DataW H} {p : List MemPlace} {r : Reach} {base : Nat} (hv : Value.okWide P w r base t v) (h : DataW.Trod enc P w 0 (fun _ => true) true t v d p) :
    ∃ a c, ∃ l : List ByteArray, v = .slice a (len l) c ∧ len l ≤ c ∧ c ≤ maxLen ∧ Txts w a l := by
  obtain ⟨a, c, l, rfl, h1, h2, h3⟩ := open_elems 1 (fun x => [Value.string x]) (fun _ => True) ht hC (by decide) (fun n cs' y hl hy => by
    match cs', hl with
    | [v0], _ =>
      obtain ⟨s, rfl, _⟩ := str_readx he hy
      exact ⟨s, rfl, trivial⟩) hv h
  refine ⟨a, c, l, rfl, h1, h2, fun i hi => ?_⟩
  obtain ⟨_, b, off, e1, e2⟩ := h3 i hi
  refine ⟨b, off, e1, ?_⟩
  have := e2 0 (by decide)
  rw [Nat.mul_one, Nat.add_zero] at this
  rw [this, tth_eq l i hi]; rfl
end
end Go.Proofs.Ytloccahcnikbfaa
