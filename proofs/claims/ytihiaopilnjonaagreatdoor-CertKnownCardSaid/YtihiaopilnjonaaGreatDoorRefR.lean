/- The reference of layer 7: small functions. -/
import Derived.Test.YtihiaopilnjonaaGreatDoorRefQ
namespace Go.Proofs.YtihiaopilnjonaaGreatDoor
open Go.RowKit
set_option linter.unusedSimpArgs false
set_option linter.unusedVariables false

theorem laidP_len (sort : Nat) (n : Int) (t : ByteArray) : (laidP sort n t).size ≤ 9 + t.size := by
  unfold laidP
  have := headP_len sort n
  rw [ByteArray.size_append, baL_size]
  split
  · omega
  · show _ + 0 ≤ _; omega
set_option maxRecDepth 100000 in
theorem rwhole_any (b : Nat) (ps : BPs) (w : World) (h : LyB w b ps) (hn : ps.length ≤ 1000) (hs : (catK ps).size ≤ 30000000000000) :
    Calls Tryz.prog 84 #[.pointer (some ⟨b, 0, none⟩)] w fun e w' => e = .returned (.string (rlayP ps)) ∧ Below w.heap.size w w' := by
  have H := Lib.hid h
  have hr : (rkept ps).length ≤ 1000 := Nat.le_trans (List.length_filter_le _ _) hn
  have HE : Hid (rlayP ps = mapP (rkept ps).length ++ catK ps) := Lib.hid rfl
  obtain ⟨m, hm⟩ : ∃ m, (rkept ps).length = m := ⟨_, rfl⟩
  obtain ⟨C, hC⟩ : ∃ C, catK ps = C := ⟨_, rfl⟩
  unfold LyB at h
  rw [hm, hC] at h HE
  rw [hm] at hr
  rw [hC] at hs
  have c0 : w.cell? ⟨b, 0, none⟩ = some (.int .u64 m) := block_cell h 0
  have c1 : w.cell? ⟨b, 1, none⟩ = some (.string C) := block_cell h 1
  have HL := Lib.hid (rlaidmany_any 4 m ⟨#[]⟩ w (.inr rfl) (by omega))
  have hz : (mapP m).size ≤ 9 := laidP_len 4 m ByteArray.empty
  have HE2 := Lib.hid HE.out
  unfold mapP at HE hz
  obtain ⟨K, hK⟩ : ∃ K, laidP 4 m ByteArray.empty = K := ⟨_, rfl⟩
  rw [hK] at HL HE hz
  have hzi : (K.size : Int) ≤ 9 := by omega
  clear h H hm hC HE2 hK hr
  go_enter Tryz.func84, Tryz.ntmps84
  go_wp2_with fail
  refine HL.out.mono ?_
  rintro e w1 ⟨rfl, hb⟩
  have HB := Lib.hid hb
  have c1' : w1.cell? ⟨b, 1, none⟩ = some (.string C) := (hb.cell (lt_of_cell c1)).trans c1
  clear hb c0 c1
  go_wp2
  go_ret
  exact ⟨by rw [HE.out]; rfl, HB.out⟩

/-- A number, or nothing. -/
def numR (n : Int) : ByteArray := if n = 0 then ⟨#[]⟩ else numP n
set_option maxRecDepth 100000 in
theorem rnum_any (n : Int) (w : World) (h0 : 0 ≤ n) (h1 : n ≤ 18446744073709551615) : Calls Tryz.prog 82 #[.int .u64 n] w fun e w' => e = .returned (.string (numR n)) ∧ Below w.heap.size w w' := by
  by_cases hz : n = 0
  · subst hz
    go_enter Tryz.func82, Tryz.ntmps82
    go_wp2
    go_ret
    exact ⟨rfl, by (repeat (first | exact Below.refl _ _ | assumption | (refine bdrew ?_) | (refine bdrewN ?_ _) | (refine balloc ?_ _) | (refine bset ?_ (by first | omega | (simp; done) | (simp; omega)) _) | (refine bnext ?_ (by assumption))))⟩
  · have HL := Lib.hid (rlaidnum_any n ⟨#[]⟩ w h0 h1)
    have HE : Hid (numR n = numP n) := Lib.hid (by unfold numR; rw [if_neg hz])
    obtain ⟨K, hK⟩ : ∃ K, numP n = K := ⟨_, rfl⟩
    rw [hK] at HL HE
    have hz' : decide (n = 0) = false := decide_eq_false hz
    have hz2 : (n == 0) = false := by simp [hz]
    clear hz hK
    go_enter Tryz.func82, Tryz.ntmps82
    go_wp2_with fail
    refine HL.out.mono ?_
    rintro e w1 ⟨rfl, hb⟩
    have HB := Lib.hid hb
    clear hb
    go_wp2
    go_ret
    exact ⟨by rw [HE.out]; rfl, HB.out⟩
set_option maxRecDepth 100000 in
theorem rbin_any (s : ByteArray) (w : World) (hs : s.size < 65536) : Calls Tryz.prog 83 #[.string s] w fun e w' => e = .returned (.string (binP s)) ∧ Below w.heap.size w w' := by
  have HL := Lib.hid (rlaidtext_any 1 0 s w (.inl rfl) hs)
  have HE : Hid (binP s = laidP 1 s.size s) := Lib.hid rfl
  obtain ⟨K, hK⟩ : ∃ K, laidP 1 s.size s = K := ⟨_, rfl⟩
  rw [hK] at HL HE
  clear hs hK
  go_enter Tryz.func83, Tryz.ntmps83
  go_wp2_with fail
  refine HL.out.mono ?_
  rintro e w1 ⟨rfl, hb⟩
  have HB := Lib.hid hb
  clear hb
  go_wp2
  go_ret
  exact ⟨by rw [HE.out]; rfl, HB.out⟩
set_option maxRecDepth 100000 in
theorem rlist_any (n : Nat) (w : World) (hn : n < 65536) : Calls Tryz.prog 96 #[.int .i64 n] w fun e w' => e = .returned (.string (listP n)) ∧ Below w.heap.size w w' := by
  have HL := Lib.hid (rlaidmany_any 3 n ⟨#[]⟩ w (.inl rfl) hn)
  have HE : Hid (listP n = laidP 3 n ByteArray.empty) := Lib.hid rfl
  obtain ⟨K, hK⟩ : ∃ K, laidP 3 n ByteArray.empty = K := ⟨_, rfl⟩
  rw [hK] at HL HE
  have hw : IntKind.u64.wrap (n : Int) = n := IntWalk.u64_in _ (by omega)
  clear hn hK
  go_enter Tryz.func96, Tryz.ntmps96
  go_wp2_with fail
  refine HL.out.mono ?_
  rintro e w1 ⟨rfl, hb⟩
  have HB := Lib.hid hb
  clear hb
  go_wp2
  go_ret
  exact ⟨by rw [HE.out]; rfl, HB.out⟩
/-- A map as a field: nothing, if it has no pairs. -/
def smallR (s : ByteArray) : ByteArray := if s = ⟨#[128]⟩ then ⟨#[]⟩ else s
set_option maxRecDepth 100000 in
theorem rsmall_any (s : ByteArray) (w : World) : Calls Tryz.prog 138 #[.string s] w fun e w' => e = .returned (.string (smallR s)) ∧ Below w.heap.size w w' := by
  by_cases hz : s = ⟨#[128]⟩
  · subst hz
    go_enter Tryz.func138, Tryz.ntmps138
    go_wp2
    go_ret
    exact ⟨rfl, by (repeat (first | exact Below.refl _ _ | assumption | (refine bdrew ?_) | (refine bdrewN ?_ _) | (refine balloc ?_ _) | (refine bset ?_ (by first | omega | (simp; done) | (simp; omega)) _) | (refine bnext ?_ (by assumption))))⟩
  · have HE : Hid (smallR s = s) := Lib.hid (by unfold smallR; rw [if_neg hz])
    have hz2 : (s.toList == [128]) = false := by
      rw [ByteArray.toList_eq]; exact beq_false_of_ne (fun h => hz (ba_ext h))
    clear hz
    go_enter Tryz.func138, Tryz.ntmps138
    go_wp2
    go_ret
    exact ⟨by rw [HE.out]; rfl, by (repeat (first | exact Below.refl _ _ | assumption | (refine bdrew ?_) | (refine bdrewN ?_ _) | (refine balloc ?_ _) | (refine bset ?_ (by first | omega | (simp; done) | (simp; omega)) _) | (refine bnext ?_ (by assumption))))⟩
set_option maxRecDepth 100000 in
theorem rdigest_any (s : ByteArray) (w : World) (hs : s.size ≤ 9223372036854775807) : Calls Tryz.prog 64 #[.string s] w fun e w' => e = .returned (.bool (decide (s.size = 32))) ∧ Below w.heap.size w w' := by
  have h1 : ((s.size : Int) == 32) = decide (s.size = 32) := by
    by_cases h : s.size = 32
    · rw [decide_eq_true h, h]; rfl
    · rw [decide_eq_false h]; simp; omega
  go_enter Tryz.func64, Tryz.ntmps64
  go_wp2
  go_ret
  exact ⟨by simp, by (repeat (first | exact Below.refl _ _ | assumption | (refine bdrew ?_) | (refine bdrewN ?_ _) | (refine balloc ?_ _) | (refine bset ?_ (by first | omega | (simp; done) | (simp; omega)) _) | (refine bnext ?_ (by assumption))))⟩
set_option maxRecDepth 100000 in
theorem rmay_any (B : Nat) (a : Option Addr) (c most : Nat) (l : List ByteArray) (w : World) (hl : Strs B w a l) (hn : len l ≤ 100000) (hm : most ≤ 100000) (hz : ∀ i, i < len l → (sth l i).size ≤ 9223372036854775807) :
    Calls Tryz.prog 94 #[.slice a (len l) c, .int .i64 most] w fun e w' => e = .returned (.bool (mayB l most)) ∧ Below w.heap.size w w' := by
  have HL := Lib.hid hl
  have HZ := Lib.hid hz
  clear hl hz
  go_enter Tryz.func94, Tryz.ntmps94
  go_wp2
  go_loopg [5] (len l) (fun g i wr => ∃ m : Nat, g + m = len l ∧ i = .int .i64 m ∧ Hid (∀ i, i < m → (sth l i).size = 32) ∧ Hid (Below w.heap.size w wr))
  case atStart => exact ⟨0, rfl, rfl, fun i hi => by omega, Below.refl _ _⟩
  case round =>
    obtain ⟨m, hg, rfl, HN, HB⟩ := hrel
    by_cases hlt : m < len l
    · obtain ⟨b, off, rfl, hc⟩ := (HL.out.below HB.out) m hlt
      have c0 := hc.cell
      have i1 : (m : Int) < len l := by omega
      have hzm := HZ.out m hlt
      have HD := Lib.hid (rdigest_any (sth l m) wr hzm)
      clear hc
      by_cases h32 : (sth l m).size = 32
      · have HN2 : Hid (∀ i, i < m + 1 → (sth l i).size = 32) := Lib.hid (fun i hi => by
          by_cases e : i = m
          · subst e; exact h32
          · exact HN.out i (by omega))
        have hd : decide ((sth l m).size = 32) = true := decide_eq_true h32
        rw [hd] at HD
        generalize sth l m = v at c0 HD
        clear hzm h32 hd
        go_wp2_with fail
        refine HD.out.mono ?_
        rintro e w1 ⟨rfl, hb⟩
        have HB1 : Hid (Below w.heap.size w w1) := Lib.hid (bnext HB.out hb)
        clear hb c0
        go_wp2
        go_roundg (len l - (m + 1))
        case rel => exact ⟨m + 1, by omega, by go_num, HN2.out, HB1.out⟩
        case measure => omega
      · have HF : Hid (mayB l most = false) := Lib.hid (by
          cases hc : mayB l most with
          | false => rfl
          | true => exact absurd ((size32 hc).2 m hlt) h32)
        have hd : decide ((sth l m).size = 32) = false := decide_eq_false h32
        rw [hd] at HD
        generalize sth l m = v at c0 HD
        clear hzm h32 hd
        go_wp2_with fail
        refine HD.out.mono ?_
        rintro e w1 ⟨rfl, hb⟩
        have HB1 : Hid (Below w.heap.size w w1) := Lib.hid (bnext HB.out hb)
        clear hb c0
        go_wp2
        go_ret
        exact ⟨by rw [HF.out]; rfl, HB1.out⟩
    · obtain rfl : m = len l := by omega
      have i1 : ¬ ((len l : Nat) : Int) < (len l : Nat) := by omega
      have hall : (l.all fun x => decide (x.size = 32)) = true := by
        cases hc : (l.all fun x => decide (x.size = 32)) with
        | true => rfl
        | false =>
          obtain ⟨i, hi, h⟩ := (all32_iff l).1 hc
          rw [decide_eq_true (HN.out i hi)] at h
          exact absurd h (by decide)
      have HE : Hid (mayB l most = decide (len l ≤ most)) := Lib.hid (by
        unfold mayB
        rw [hall, Bool.and_true])
      clear hall
      go_wp2
      go_ret
      exact ⟨by rw [HE.out]; simp, HB.out⟩
set_option maxRecDepth 100000 in
theorem rmaysig_any (B : Nat) (idx : Int) (a1 a2 : Option Addr) (k1 k2 : Nat) (wots path : List ByteArray) (w : World) (hs1 : Strs B w a1 wots) (hs2 : Strs B w a2 path) (hw : len wots ≤ 100000) (hp : len path ≤ 100000) (hz1 : ∀ i, i < len wots → (sth wots i).size ≤ 9223372036854775807) (hz2 : ∀ i, i < len path → (sth path i).size ≤ 9223372036854775807) :
    Calls Tryz.prog 74 #[.agg #[.int .u64 idx, .slice a1 (len wots) k1, .slice a2 (len path) k2]] w fun e w' => e = .returned (.bool (mayB path 16 && mayB wots 67)) ∧ Below w.heap.size w w' := by
  have HS1 := Lib.hid hs1
  have HS2 := Lib.hid hs2
  have HZ1 := Lib.hid hz1
  have HZ2 := Lib.hid hz2
  clear hs1 hs2 hz1 hz2
  go_enter Tryz.func74, Tryz.ntmps74
  go_wp2_with fail
  obtain ⟨V, hV⟩ : ∃ V, w.alloc (.cells #[.int .u64 idx, .slice a1 (len wots) k1, .slice a2 (len path) k2] 42) = V := ⟨_, rfl⟩
  have HB : Hid (Below w.heap.size w V) := Lib.hid (by rw [← hV]; (repeat (first | exact Below.refl _ _ | assumption | (refine bdrew ?_) | (refine bdrewN ?_ _) | (refine balloc ?_ _) | (refine bset ?_ (by first | omega | (simp; done) | (simp; omega)) _) | (refine bnext ?_ (by assumption)))))
  have hblk : V.heap[w.heap.size]? = some (.cells #[.int .u64 idx, .slice a1 (len wots) k1, .slice a2 (len path) k2] 42 (0, 0)) := by rw [← hV]; exact heap_alloc_new _ _
  try rw [hV]
  clear hV
  refine (rmay_any B a2 k2 16 path V (HS2.out.below HB.out) hp (by decide) HZ2.out).mono ?_
  rintro e w1 ⟨rfl, hb⟩
  have HB1 : Hid (Below w.heap.size w w1) := Lib.hid (bnext HB.out hb)
  have c1 : w1.cell? ⟨w.heap.size, 1, none⟩ = some (.slice a1 (len wots) k1) := (hb.cell (lt_of_block hblk)).trans (block_cell hblk 1)
  clear hb hblk
  cases hm : mayB path 16 with
  | false =>
    have HM := Lib.hid hm
    clear hm
    go_wp2
    go_ret
    exact ⟨by rw [HM.out]; rfl, HB1.out⟩
  | true =>
    have HM := Lib.hid hm
    clear hm
    go_wp2_with fail
    refine (rmay_any B a1 k1 67 wots w1 (HS1.out.below HB1.out) hw (by decide) HZ1.out).mono ?_
    rintro e w2 ⟨rfl, hb⟩
    have HB2 : Hid (Below w.heap.size w w2) := Lib.hid (bnext HB1.out hb)
    clear hb c1
    go_wp2
    go_ret
    exact ⟨by rw [HM.out]; rfl, HB2.out⟩
end Go.Proofs.YtihiaopilnjonaaGreatDoor
