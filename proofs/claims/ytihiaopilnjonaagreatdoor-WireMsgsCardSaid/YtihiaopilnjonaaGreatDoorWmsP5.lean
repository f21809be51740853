/- Parts of the proof, one behind the other. -/
import Derived.Test.YtihiaopilnjonaaGreatDoorWmsP4
import Derived.Shelf.Strings.Builder1
import Derived.Shelf.Strings.Builder2
import Derived.Shelf.Strings.BuilderF
import Derived.Shelf.Strings.BuilderK
import Derived.Shelf.Strings.Builder2Cap
import Derived.Shelf.Strings.Prefix
import Derived.Shelf.Bits.Mul64
import Derived.Shelf.Strings.Repeat
import Derived.Shelf.Strings.BuilderCap
import Derived.Test.YtihiaopilnjonaaGreatDoorProg
namespace Go.Proofs.YtihiaopilnjonaaGreatDoor
open Go.RowKit
set_option linter.unusedSimpArgs false
set_option linter.unusedVariables false
def msgPs (hd : ByteArray) (pt : ByteArray) (cnt : Int) (prv : Int) (fst : Int) (lst : Int) : BPs := [(⟨#[102]⟩, numR fst), (⟨#[104]⟩, binP hd), (⟨#[108]⟩, numR lst), (⟨#[110]⟩, numR cnt), (⟨#[118]⟩, binP pt), (⟨#[119]⟩, numR prv)]
theorem msg_same (hd : ByteArray) (pt : ByteArray) (cnt : Int) (prv : Int) (fst : Int) (lst : Int) (h0 : hd.size < 65536) (h1 : pt.size < 65536) : layP (msgSpecs hd pt cnt prv fst lst) = rlayP (msgPs hd pt cnt prv fst lst) :=
  fps_lay ⟨⟨rfl, num_ok ⟨#[]⟩ fst⟩, ⟨rfl, bin_ok hd h0⟩, ⟨rfl, num_ok ⟨#[]⟩ lst⟩, ⟨rfl, num_ok ⟨#[]⟩ cnt⟩, ⟨rfl, bin_ok pt h1⟩, ⟨rfl, num_ok ⟨#[]⟩ prv⟩, trivial⟩
theorem may_msg (hd : ByteArray) (pt : ByteArray) (cnt : Int) (prv : Int) (fst : Int) (lst : Int) : allMay (msgSpecs hd pt cnt prv fst lst) = (decide (hd.size = 32) && decide (pt.size = 32)) := by
  show ((true && (decide (hd.size = 32) && (true && (true && (decide (pt.size = 32) && (true && true))))))) = _
  cases decide (hd.size = 32) <;> cases decide (pt.size = 32) <;> rfl
set_option maxRecDepth 100000 in
set_option maxHeartbeats 4000000 in
theorem rmsg_any (hd : ByteArray) (pt : ByteArray) (cnt : Int) (prv : Int) (fst : Int) (lst : Int) (w : World) (h0 : hd.size ≤ 9223372036854775807) (h1 : pt.size ≤ 9223372036854775807) (h2 : U64i cnt) (h3 : U64i prv) (h4 : U64i fst) (h5 : U64i lst) :
    Calls Tryz.prog 39 #[.agg #[.string hd, .string pt, .int .u64 cnt, .int .u64 prv, .int .u64 fst, .int .u64 lst]] w (LaidIs (msgSpecs hd pt cnt prv fst lst) w) := by
  have HM := Lib.hid (may_msg hd pt cnt prv fst lst)
  go_enter Tryz.func39, Tryz.ntmps39
  go_wp2_with fail
  obtain ⟨V, hV⟩ : ∃ V, w.alloc (.cells #[.string hd, .string pt, .int .u64 cnt, .int .u64 prv, .int .u64 fst, .int .u64 lst] 76) = V := ⟨_, rfl⟩
  have HB : Hid (Below w.heap.size w V) := Lib.hid (by rw [← hV]; (repeat (first | exact Below.refl _ _ | assumption | (refine bdrew ?_) | (refine bdrewN ?_ _) | (refine balloc ?_ _) | (refine bset ?_ (by first | omega | (simp; done) | (simp; omega)) _) | (refine bnext ?_ (by assumption)))))
  have HP : Hid (V.heap[w.heap.size]? = some (.cells #[.string hd, .string pt, .int .u64 cnt, .int .u64 prv, .int .u64 fst, .int .u64 lst] 76 (0, 0))) := Lib.hid (by rw [← hV]; exact heap_alloc_new _ _)
  try rw [hV]
  clear hV
  refine (rdigest_any hd V h0).mono ?_
  rintro e v0 ⟨rfl, hb⟩
  have HP := Lib.hid ((hb.block _ (lt_of_block HP.out)).trans HP.out)
  have HB := Lib.hid (bnext HB.out hb)
  have cP : ∀ o, World.cell? v0 ⟨w.heap.size, o, none⟩ = _ := block_cell HP.out
  clear hb
  by_cases q0 : hd.size = 32
  · have HQ0 := Lib.hid q0
    rw [decide_eq_true q0]
    clear q0
    go_wp2_with fail
    refine (rdigest_any pt v0 h1).mono ?_
    rintro e v1 ⟨rfl, hb⟩
    have HP := Lib.hid ((hb.block _ (lt_of_block HP.out)).trans HP.out)
    have HB := Lib.hid (bnext HB.out hb)
    have cP : ∀ o, World.cell? v1 ⟨w.heap.size, o, none⟩ = _ := block_cell HP.out
    clear hb
    by_cases q1 : pt.size = 32
    · have HQ1 := Lib.hid q1
      rw [decide_eq_true q1]
      clear q1
      have HM : Hid (allMay (msgSpecs hd pt cnt prv fst lst) = true) := Lib.hid (by rw [HM.out, decide_eq_true HQ0.out, decide_eq_true HQ1.out]; rfl)
      have HS := Lib.hid (msg_same hd pt cnt prv fst lst (by rw [HQ0.out]; decide) (by rw [HQ1.out]; decide))
      have HR0 : Hid (hd.size < 65536) := Lib.hid (by rw [HQ0.out]; decide)
      have HR1 : Hid (pt.size < 65536) := Lib.hid (by rw [HQ1.out]; decide)
      clear h0 h1
      go_upto_region 4 with fail
      obtain ⟨lb, hlb⟩ : ∃ lb, v1.heap.size = lb := ⟨_, rfl⟩
      have hwl := lt_of_block HP.out
      obtain ⟨V0, hV0⟩ : ∃ V0, v1.alloc (.cells #[.int .u64 0, .string ⟨#[]⟩] 141) = V0 := ⟨_, rfl⟩
      have HL : Hid (w.heap.size < lb) := Lib.hid (by omega)
      have HY : Hid (LyB V0 lb []) := Lib.hid (by rw [← hV0, ← hlb]; exact heap_alloc_new _ _)
      have HP := Lib.hid (block_alloc HP.out (.cells #[.int .u64 0, .string ⟨#[]⟩] 141))
      have HB := Lib.hid (balloc HB.out (.cells #[.int .u64 0, .string ⟨#[]⟩] 141))
      rw [hV0] at HP HB ⊢
      try rw [hlb]
      clear hV0 hlb hwl cP
      have cP : ∀ o, World.cell? V0 ⟨w.heap.size, o, none⟩ = _ := block_cell HP.out
      have HZ : Hid ((catK []).size ≤ 0 * 25000000000) := Lib.hid (by decide)
      go_wp2_with fail
      refine (rnum_any fst V0 h4.1 h4.2).mono ?_
      rintro e m0 ⟨rfl, hb⟩
      have HP := Lib.hid ((hb.block _ (lt_of_block HP.out)).trans HP.out)
      have HY := Lib.hid (HY.out.below hb)
      have HB := Lib.hid (bnext HB.out hb)
      clear hb
      try clear cP
      go_wp2_with fail
      refine (put_any _ _ ⟨#[102]⟩ (numR fst) m0 HY.out (by decide) (by simp) (by have := HZ.out; omega) (by have := numR_len fst; omega)).mono ?_
      rintro e q0 ⟨rfl, hx, hl⟩
      have HZ := putZ (k := ⟨#[102]⟩) (v := numR fst) HZ rfl (by have := numR_len fst; omega)
      have HP := Lib.hid (extB_block hx (fun e => absurd (Option.some.inj e) (Nat.ne_of_lt HL.out)) HP.out)
      have HY := Lib.hid hl
      have HB := Lib.hid (HB.out.trans (extB_to hx (Nat.le_of_lt HL.out) HB.out.size))
      have cP : ∀ o, World.cell? q0 ⟨w.heap.size, o, none⟩ = _ := block_cell HP.out
      clear hx hl
      go_wp2_with fail
      refine (rbin_any hd q0 HR0.out).mono ?_
      rintro e m1 ⟨rfl, hb⟩
      have HP := Lib.hid ((hb.block _ (lt_of_block HP.out)).trans HP.out)
      have HY := Lib.hid (HY.out.below hb)
      have HB := Lib.hid (bnext HB.out hb)
      clear hb
      try clear cP
      go_wp2_with fail
      have bz1 : (binP hd).size ≤ 65545 := by have := binP_len hd; have := HR0.out; omega
      refine (put_any _ _ ⟨#[104]⟩ (binP hd) m1 HY.out (by decide) (by simp) (by have := HZ.out; omega) (by have := bz1; omega)).mono ?_
      rintro e q1 ⟨rfl, hx, hl⟩
      have HZ := putZ (k := ⟨#[104]⟩) (v := binP hd) HZ rfl (by have := bz1; omega)
      have HP := Lib.hid (extB_block hx (fun e => absurd (Option.some.inj e) (Nat.ne_of_lt HL.out)) HP.out)
      have HY := Lib.hid hl
      have HB := Lib.hid (HB.out.trans (extB_to hx (Nat.le_of_lt HL.out) HB.out.size))
      have cP : ∀ o, World.cell? q1 ⟨w.heap.size, o, none⟩ = _ := block_cell HP.out
      clear hx hl
      clear bz1
      go_wp2_with fail
      refine (rnum_any lst q1 h5.1 h5.2).mono ?_
      rintro e m2 ⟨rfl, hb⟩
      have HP := Lib.hid ((hb.block _ (lt_of_block HP.out)).trans HP.out)
      have HY := Lib.hid (HY.out.below hb)
      have HB := Lib.hid (bnext HB.out hb)
      clear hb
      try clear cP
      go_wp2_with fail
      refine (put_any _ _ ⟨#[108]⟩ (numR lst) m2 HY.out (by decide) (by simp) (by have := HZ.out; omega) (by have := numR_len lst; omega)).mono ?_
      rintro e q2 ⟨rfl, hx, hl⟩
      have HZ := putZ (k := ⟨#[108]⟩) (v := numR lst) HZ rfl (by have := numR_len lst; omega)
      have HP := Lib.hid (extB_block hx (fun e => absurd (Option.some.inj e) (Nat.ne_of_lt HL.out)) HP.out)
      have HY := Lib.hid hl
      have HB := Lib.hid (HB.out.trans (extB_to hx (Nat.le_of_lt HL.out) HB.out.size))
      have cP : ∀ o, World.cell? q2 ⟨w.heap.size, o, none⟩ = _ := block_cell HP.out
      clear hx hl
      go_wp2_with fail
      refine (rnum_any cnt q2 h2.1 h2.2).mono ?_
      rintro e m3 ⟨rfl, hb⟩
      have HP := Lib.hid ((hb.block _ (lt_of_block HP.out)).trans HP.out)
      have HY := Lib.hid (HY.out.below hb)
      have HB := Lib.hid (bnext HB.out hb)
      clear hb
      try clear cP
      go_wp2_with fail
      refine (put_any _ _ ⟨#[110]⟩ (numR cnt) m3 HY.out (by decide) (by simp) (by have := HZ.out; omega) (by have := numR_len cnt; omega)).mono ?_
      rintro e q3 ⟨rfl, hx, hl⟩
      have HZ := putZ (k := ⟨#[110]⟩) (v := numR cnt) HZ rfl (by have := numR_len cnt; omega)
      have HP := Lib.hid (extB_block hx (fun e => absurd (Option.some.inj e) (Nat.ne_of_lt HL.out)) HP.out)
      have HY := Lib.hid hl
      have HB := Lib.hid (HB.out.trans (extB_to hx (Nat.le_of_lt HL.out) HB.out.size))
      have cP : ∀ o, World.cell? q3 ⟨w.heap.size, o, none⟩ = _ := block_cell HP.out
      clear hx hl
      go_wp2_with fail
      refine (rbin_any pt q3 HR1.out).mono ?_
      rintro e m4 ⟨rfl, hb⟩
      have HP := Lib.hid ((hb.block _ (lt_of_block HP.out)).trans HP.out)
      have HY := Lib.hid (HY.out.below hb)
      have HB := Lib.hid (bnext HB.out hb)
      clear hb
      try clear cP
      go_wp2_with fail
      have bz4 : (binP pt).size ≤ 65545 := by have := binP_len pt; have := HR1.out; omega
      refine (put_any _ _ ⟨#[118]⟩ (binP pt) m4 HY.out (by decide) (by simp) (by have := HZ.out; omega) (by have := bz4; omega)).mono ?_
      rintro e q4 ⟨rfl, hx, hl⟩
      have HZ := putZ (k := ⟨#[118]⟩) (v := binP pt) HZ rfl (by have := bz4; omega)
      have HP := Lib.hid (extB_block hx (fun e => absurd (Option.some.inj e) (Nat.ne_of_lt HL.out)) HP.out)
      have HY := Lib.hid hl
      have HB := Lib.hid (HB.out.trans (extB_to hx (Nat.le_of_lt HL.out) HB.out.size))
      have cP : ∀ o, World.cell? q4 ⟨w.heap.size, o, none⟩ = _ := block_cell HP.out
      clear hx hl
      clear bz4
      go_wp2_with fail
      refine (rnum_any prv q4 h3.1 h3.2).mono ?_
      rintro e m5 ⟨rfl, hb⟩
      have HP := Lib.hid ((hb.block _ (lt_of_block HP.out)).trans HP.out)
      have HY := Lib.hid (HY.out.below hb)
      have HB := Lib.hid (bnext HB.out hb)
      clear hb
      try clear cP
      go_wp2_with fail
      refine (put_any _ _ ⟨#[119]⟩ (numR prv) m5 HY.out (by decide) (by simp) (by have := HZ.out; omega) (by have := numR_len prv; omega)).mono ?_
      rintro e q5 ⟨rfl, hx, hl⟩
      have HZ := putZ (k := ⟨#[119]⟩) (v := numR prv) HZ rfl (by have := numR_len prv; omega)
      have HP := Lib.hid (extB_block hx (fun e => absurd (Option.some.inj e) (Nat.ne_of_lt HL.out)) HP.out)
      have HY := Lib.hid hl
      have HB := Lib.hid (HB.out.trans (extB_to hx (Nat.le_of_lt HL.out) HB.out.size))
      have cP : ∀ o, World.cell? q5 ⟨w.heap.size, o, none⟩ = _ := block_cell HP.out
      clear hx hl
      go_wp2_with fail
      refine (rwhole_any _ _ q5 HY.out (by simp) (by have := HZ.out; omega)).mono ?_
      rintro e wz ⟨rfl, hb⟩
      have HB := Lib.hid (bnext HB.out hb)
      clear hb cP
      go_wp2
      go_ret2
      exact ⟨by rw [HM.out, HS.out]; rfl, HB.out⟩
    · have HM : Hid (allMay (msgSpecs hd pt cnt prv fst lst) = false) := Lib.hid (by rw [HM.out, decide_eq_true HQ0.out, decide_eq_false q1]; rfl)
      rw [decide_eq_false q1]
      clear q1 h1
      go_wp2
      go_ret2
      exact ⟨by rw [HM.out]; rfl, HB.out⟩
  · have HM : Hid (allMay (msgSpecs hd pt cnt prv fst lst) = false) := Lib.hid (by rw [HM.out, decide_eq_false q0]; rfl)
    rw [decide_eq_false q0]
    clear q0 h0
    go_wp2
    go_ret2
    exact ⟨by rw [HM.out]; rfl, HB.out⟩
def headerPs (rnd : Int) (prev : ByteArray) (txns : ByteArray) (seed : ByteArray) : BPs := [(⟨#[112]⟩, binP prev), (⟨#[114]⟩, numR rnd), (⟨#[115]⟩, binP seed), (⟨#[116]⟩, binP txns)]
theorem header_same (rnd : Int) (prev : ByteArray) (txns : ByteArray) (seed : ByteArray) (h1 : prev.size < 65536) (h2 : txns.size < 65536) (h3 : seed.size < 65536) : layP (headerSpecs rnd prev txns seed) = rlayP (headerPs rnd prev txns seed) :=
  fps_lay ⟨⟨rfl, bin_ok prev h1⟩, ⟨rfl, num_ok ⟨#[]⟩ rnd⟩, ⟨rfl, bin_ok seed h3⟩, ⟨rfl, bin_ok txns h2⟩, trivial⟩
theorem may_header (rnd : Int) (prev : ByteArray) (txns : ByteArray) (seed : ByteArray) : allMay (headerSpecs rnd prev txns seed) = (decide (prev.size = 32) && decide (seed.size = 32) && decide (txns.size = 32)) := by
  show ((decide (prev.size = 32) && (true && (decide (seed.size = 32) && (decide (txns.size = 32) && true))))) = _
  cases decide (prev.size = 32) <;> cases decide (seed.size = 32) <;> cases decide (txns.size = 32) <;> rfl
set_option maxRecDepth 100000 in
set_option maxHeartbeats 4000000 in
theorem rheader_any (rnd : Int) (prev : ByteArray) (txns : ByteArray) (seed : ByteArray) (w : World) (h0 : U64i rnd) (h1 : prev.size ≤ 9223372036854775807) (h2 : txns.size ≤ 9223372036854775807) (h3 : seed.size ≤ 9223372036854775807) :
    Calls Tryz.prog 41 #[.agg #[.int .u64 rnd, .string prev, .string txns, .string seed]] w (LaidIs (headerSpecs rnd prev txns seed) w) := by
  have HM := Lib.hid (may_header rnd prev txns seed)
  go_enter Tryz.func41, Tryz.ntmps41
  go_wp2_with fail
  obtain ⟨V, hV⟩ : ∃ V, w.alloc (.cells #[.int .u64 rnd, .string prev, .string txns, .string seed] 78) = V := ⟨_, rfl⟩
  have HB : Hid (Below w.heap.size w V) := Lib.hid (by rw [← hV]; (repeat (first | exact Below.refl _ _ | assumption | (refine bdrew ?_) | (refine bdrewN ?_ _) | (refine balloc ?_ _) | (refine bset ?_ (by first | omega | (simp; done) | (simp; omega)) _) | (refine bnext ?_ (by assumption)))))
  have HP : Hid (V.heap[w.heap.size]? = some (.cells #[.int .u64 rnd, .string prev, .string txns, .string seed] 78 (0, 0))) := Lib.hid (by rw [← hV]; exact heap_alloc_new _ _)
  try rw [hV]
  clear hV
  refine (rdigest_any prev V h1).mono ?_
  rintro e v0 ⟨rfl, hb⟩
  have HP := Lib.hid ((hb.block _ (lt_of_block HP.out)).trans HP.out)
  have HB := Lib.hid (bnext HB.out hb)
  have cP : ∀ o, World.cell? v0 ⟨w.heap.size, o, none⟩ = _ := block_cell HP.out
  clear hb
  by_cases q1 : prev.size = 32
  · have HQ1 := Lib.hid q1
    rw [decide_eq_true q1]
    clear q1
    go_wp2_with fail
    refine (rdigest_any seed v0 h3).mono ?_
    rintro e v1 ⟨rfl, hb⟩
    have HP := Lib.hid ((hb.block _ (lt_of_block HP.out)).trans HP.out)
    have HB := Lib.hid (bnext HB.out hb)
    have cP : ∀ o, World.cell? v1 ⟨w.heap.size, o, none⟩ = _ := block_cell HP.out
    clear hb
    by_cases q3 : seed.size = 32
    · have HQ3 := Lib.hid q3
      rw [decide_eq_true q3]
      clear q3
      go_wp2_with fail
      refine (rdigest_any txns v1 h2).mono ?_
      rintro e v2 ⟨rfl, hb⟩
      have HP := Lib.hid ((hb.block _ (lt_of_block HP.out)).trans HP.out)
      have HB := Lib.hid (bnext HB.out hb)
      have cP : ∀ o, World.cell? v2 ⟨w.heap.size, o, none⟩ = _ := block_cell HP.out
      clear hb
      by_cases q2 : txns.size = 32
      · have HQ2 := Lib.hid q2
        rw [decide_eq_true q2]
        clear q2
        have HM : Hid (allMay (headerSpecs rnd prev txns seed) = true) := Lib.hid (by rw [HM.out, decide_eq_true HQ1.out, decide_eq_true HQ3.out, decide_eq_true HQ2.out]; rfl)
        have HS := Lib.hid (header_same rnd prev txns seed (by rw [HQ1.out]; decide) (by rw [HQ2.out]; decide) (by rw [HQ3.out]; decide))
        have HR1 : Hid (prev.size < 65536) := Lib.hid (by rw [HQ1.out]; decide)
        have HR2 : Hid (txns.size < 65536) := Lib.hid (by rw [HQ2.out]; decide)
        have HR3 : Hid (seed.size < 65536) := Lib.hid (by rw [HQ3.out]; decide)
        clear h1 h2 h3
        go_upto_region 4 with fail
        obtain ⟨lb, hlb⟩ : ∃ lb, v2.heap.size = lb := ⟨_, rfl⟩
        have hwl := lt_of_block HP.out
        obtain ⟨V0, hV0⟩ : ∃ V0, v2.alloc (.cells #[.int .u64 0, .string ⟨#[]⟩] 141) = V0 := ⟨_, rfl⟩
        have HL : Hid (w.heap.size < lb) := Lib.hid (by omega)
        have HY : Hid (LyB V0 lb []) := Lib.hid (by rw [← hV0, ← hlb]; exact heap_alloc_new _ _)
        have HP := Lib.hid (block_alloc HP.out (.cells #[.int .u64 0, .string ⟨#[]⟩] 141))
        have HB := Lib.hid (balloc HB.out (.cells #[.int .u64 0, .string ⟨#[]⟩] 141))
        rw [hV0] at HP HB ⊢
        try rw [hlb]
        clear hV0 hlb hwl cP
        have cP : ∀ o, World.cell? V0 ⟨w.heap.size, o, none⟩ = _ := block_cell HP.out
        have HZ : Hid ((catK []).size ≤ 0 * 25000000000) := Lib.hid (by decide)
        go_wp2_with fail
        refine (rbin_any prev V0 HR1.out).mono ?_
        rintro e m0 ⟨rfl, hb⟩
        have HP := Lib.hid ((hb.block _ (lt_of_block HP.out)).trans HP.out)
        have HY := Lib.hid (HY.out.below hb)
        have HB := Lib.hid (bnext HB.out hb)
        clear hb
        try clear cP
        go_wp2_with fail
        have bz0 : (binP prev).size ≤ 65545 := by have := binP_len prev; have := HR1.out; omega
        refine (put_any _ _ ⟨#[112]⟩ (binP prev) m0 HY.out (by decide) (by simp) (by have := HZ.out; omega) (by have := bz0; omega)).mono ?_
        rintro e q0 ⟨rfl, hx, hl⟩
        have HZ := putZ (k := ⟨#[112]⟩) (v := binP prev) HZ rfl (by have := bz0; omega)
        have HP := Lib.hid (extB_block hx (fun e => absurd (Option.some.inj e) (Nat.ne_of_lt HL.out)) HP.out)
        have HY := Lib.hid hl
        have HB := Lib.hid (HB.out.trans (extB_to hx (Nat.le_of_lt HL.out) HB.out.size))
        have cP : ∀ o, World.cell? q0 ⟨w.heap.size, o, none⟩ = _ := block_cell HP.out
        clear hx hl
        clear bz0
        go_wp2_with fail
        refine (rnum_any rnd q0 h0.1 h0.2).mono ?_
        rintro e m1 ⟨rfl, hb⟩
        have HP := Lib.hid ((hb.block _ (lt_of_block HP.out)).trans HP.out)
        have HY := Lib.hid (HY.out.below hb)
        have HB := Lib.hid (bnext HB.out hb)
        clear hb
        try clear cP
        go_wp2_with fail
        refine (put_any _ _ ⟨#[114]⟩ (numR rnd) m1 HY.out (by decide) (by simp) (by have := HZ.out; omega) (by have := numR_len rnd; omega)).mono ?_
        rintro e q1 ⟨rfl, hx, hl⟩
        have HZ := putZ (k := ⟨#[114]⟩) (v := numR rnd) HZ rfl (by have := numR_len rnd; omega)
        have HP := Lib.hid (extB_block hx (fun e => absurd (Option.some.inj e) (Nat.ne_of_lt HL.out)) HP.out)
        have HY := Lib.hid hl
        have HB := Lib.hid (HB.out.trans (extB_to hx (Nat.le_of_lt HL.out) HB.out.size))
        have cP : ∀ o, World.cell? q1 ⟨w.heap.size, o, none⟩ = _ := block_cell HP.out
        clear hx hl
        go_wp2_with fail
        refine (rbin_any seed q1 HR3.out).mono ?_
        rintro e m2 ⟨rfl, hb⟩
        have HP := Lib.hid ((hb.block _ (lt_of_block HP.out)).trans HP.out)
        have HY := Lib.hid (HY.out.below hb)
        have HB := Lib.hid (bnext HB.out hb)
        clear hb
        try clear cP
        go_wp2_with fail
        have bz2 : (binP seed).size ≤ 65545 := by have := binP_len seed; have := HR3.out; omega
        refine (put_any _ _ ⟨#[115]⟩ (binP seed) m2 HY.out (by decide) (by simp) (by have := HZ.out; omega) (by have := bz2; omega)).mono ?_
        rintro e q2 ⟨rfl, hx, hl⟩
        have HZ := putZ (k := ⟨#[115]⟩) (v := binP seed) HZ rfl (by have := bz2; omega)
        have HP := Lib.hid (extB_block hx (fun e => absurd (Option.some.inj e) (Nat.ne_of_lt HL.out)) HP.out)
        have HY := Lib.hid hl
        have HB := Lib.hid (HB.out.trans (extB_to hx (Nat.le_of_lt HL.out) HB.out.size))
        have cP : ∀ o, World.cell? q2 ⟨w.heap.size, o, none⟩ = _ := block_cell HP.out
        clear hx hl
        clear bz2
        go_wp2_with fail
        refine (rbin_any txns q2 HR2.out).mono ?_
        rintro e m3 ⟨rfl, hb⟩
        have HP := Lib.hid ((hb.block _ (lt_of_block HP.out)).trans HP.out)
        have HY := Lib.hid (HY.out.below hb)
        have HB := Lib.hid (bnext HB.out hb)
        clear hb
        try clear cP
        go_wp2_with fail
        have bz3 : (binP txns).size ≤ 65545 := by have := binP_len txns; have := HR2.out; omega
        refine (put_any _ _ ⟨#[116]⟩ (binP txns) m3 HY.out (by decide) (by simp) (by have := HZ.out; omega) (by have := bz3; omega)).mono ?_
        rintro e q3 ⟨rfl, hx, hl⟩
        have HZ := putZ (k := ⟨#[116]⟩) (v := binP txns) HZ rfl (by have := bz3; omega)
        have HP := Lib.hid (extB_block hx (fun e => absurd (Option.some.inj e) (Nat.ne_of_lt HL.out)) HP.out)
        have HY := Lib.hid hl
        have HB := Lib.hid (HB.out.trans (extB_to hx (Nat.le_of_lt HL.out) HB.out.size))
        have cP : ∀ o, World.cell? q3 ⟨w.heap.size, o, none⟩ = _ := block_cell HP.out
        clear hx hl
        clear bz3
        go_wp2_with fail
        refine (rwhole_any _ _ q3 HY.out (by simp) (by have := HZ.out; omega)).mono ?_
        rintro e wz ⟨rfl, hb⟩
        have HB := Lib.hid (bnext HB.out hb)
        clear hb cP
        go_wp2
        go_ret2
        exact ⟨by rw [HM.out, HS.out]; rfl, HB.out⟩
      · have HM : Hid (allMay (headerSpecs rnd prev txns seed) = false) := Lib.hid (by rw [HM.out, decide_eq_true HQ1.out, decide_eq_true HQ3.out, decide_eq_false q2]; rfl)
        rw [decide_eq_false q2]
        clear q2 h2
        go_wp2
        go_ret2
        exact ⟨by rw [HM.out]; rfl, HB.out⟩
    · have HM : Hid (allMay (headerSpecs rnd prev txns seed) = false) := Lib.hid (by rw [HM.out, decide_eq_true HQ1.out, decide_eq_false q3]; rfl)
      rw [decide_eq_false q3]
      clear q3 h3
      go_wp2
      go_ret2
      exact ⟨by rw [HM.out]; rfl, HB.out⟩
  · have HM : Hid (allMay (headerSpecs rnd prev txns seed) = false) := Lib.hid (by rw [HM.out, decide_eq_false q1]; rfl)
    rw [decide_eq_false q1]
    clear q1 h1
    go_wp2
    go_ret2
    exact ⟨by rw [HM.out]; rfl, HB.out⟩
end Go.Proofs.YtihiaopilnjonaaGreatDoor
namespace Go.Proofs.YtihiaopilnjonaaGreatDoor
open Go.RowKit
set_option linter.unusedSimpArgs false
set_option linter.unusedVariables false
theorem catB_size_le {α : Type} (f : α → ByteArray) (M : Nat) : ∀ l : List α, (∀ x ∈ l, (f x).size ≤ M) → (catB (l.map f)).size ≤ l.length * M
  | [], _ => by simp [catB]
  | x :: r, h => by
    rw [List.map_cons, catB, ByteArray.size_append, List.length_cons, Nat.succ_mul]
    have h1 := h x (List.mem_cons_self ..)
    have h2 := catB_size_le f M r (fun y hy => h y (List.mem_cons_of_mem _ hy))
    omega
theorem layP_size (fs : List FSpec) (M : Nat) (h : ∀ f ∈ fs, f.key.size ≤ 1 ∧ f.bytes.size ≤ M) : (layP fs).size ≤ 9 + fs.length * (M + 10) := by
  unfold layP
  rw [ByteArray.size_append]
  have h1 : (mapP (keptF fs).length).size ≤ 9 := laidP_len 4 _ ByteArray.empty
  have h2 := catB_size_le fieldP (M + 10) (keptF fs) (fun f hf => by
    obtain ⟨h3, h4⟩ := h f (List.mem_filter.1 hf).1
    unfold fieldP
    rw [ByteArray.size_append]
    have h5 : (strP f.key).size ≤ 9 + f.key.size := laidP_len 2 _ _
    omega)
  have h3 := Nat.mul_le_mul_right (M + 10) (kept_le fs)
  omega
theorem numP_size (n : Int) : (numP n).size ≤ 9 := laidP_len 0 _ ByteArray.empty
theorem may_all {fs : List FSpec} (h : allMay fs = true) : ∀ f ∈ fs, f.may = true := List.all_eq_true.1 h
end Go.Proofs.YtihiaopilnjonaaGreatDoor
namespace Go.Proofs.YtihiaopilnjonaaGreatDoor
open Go.RowKit
set_option linter.unusedSimpArgs false
set_option linter.unusedVariables false
theorem extS_cell {VO : Nat → Option Nat} {w w1 : World} (h : ExtS VO w.drew w1) {b o : Nat} (hn : ∀ j, VO j ≠ some b) {v : Value} (hc : w.cell? ⟨b, o, none⟩ = some v) : w1.cell? ⟨b, o, none⟩ = some v := by
  rw [World.cell?_of_block (w := w) (h.block b (lt_of_cell hc) hn)]; exact hc
theorem told_none (w : World) : Calls Tryz.prog 31 #[.nilIface, .agg #[.int .i64 0, .int .i64 0]] w fun e w' => e = .returned (.bool true) ∧ Below w.heap.size w w' := by
  go_enter Tryz.func31, Tryz.ntmps31
  go_wp2
  go_ret
  exact ⟨rfl, by (repeat (first | exact Below.refl _ _ | assumption | (refine bdrew ?_) | (refine bdrewN ?_ _) | (refine balloc ?_ _) | (refine bset ?_ (by first | omega | (simp; done) | (simp; omega)) _) | (refine bnext ?_ (by assumption))))⟩
set_option maxRecDepth 100000 in
set_option maxHeartbeats 4000000 in
theorem told_fault (fb : Nat) (k : Int) (a : Nat) (w : World) (het : ErrType w) (h : FltB w fb k a) (hk : k ≠ 0) (hg : 0 < w.heap.size) : Calls Tryz.prog 31 #[.iface 127 (.pointer (some ⟨fb, 0, none⟩)), .agg #[.int .i64 k, .int .i64 a]] w fun e w' => e = .returned (.bool true) ∧ Below w.heap.size w w' := by
  have H := Lib.hid h
  have HET0 := Lib.hid het
  have hk1 : (k == 0) = false := by simpa using hk
  have hfl := lt_of_block h
  clear h het hk
  go_enter Tryz.func31, Tryz.ntmps31
  go_upto_region 4 with fail
  obtain ⟨b3, hb3⟩ : ∃ b3, w.heap.size = b3 := ⟨_, rfl⟩
  obtain ⟨W, hW⟩ : ∃ W, (w.alloc (.cells #[.int .i64 k, .int .i64 a] 63)).alloc (.cells #[.pointer none] 127) = W := ⟨_, rfl⟩
  have WB : Hid (Below w.heap.size w W) := Lib.hid (by rw [← hW]; exact balloc (balloc (Below.refl _ _) _) _)
  have W3 : Hid (W.heap[b3]? = some (.cells #[.int .i64 k, .int .i64 a] 63 (0, 0))) := Lib.hid (by rw [← hW, ← hb3]; exact block_alloc (heap_alloc_new _ _) _)
  obtain ⟨gb, hgb⟩ : ∃ gb, b3 + 1 = gb := ⟨_, rfl⟩
  have WG : Hid (W.heap[gb]? = some (.cells #[.pointer none] 127 (0, 0))) := Lib.hid (by rw [← hW, ← hgb]; exact alloc_new_at _ (by simp [hb3]))
  try rw [hW]
  try simp only [hb3, hgb]
  have hyg : fb ≠ gb := by omega
  have hzg : b3 ≠ gb := by omega
  have hgg : 0 ≠ gb := by omega
  have HET : Hid (ErrType W) := Lib.hid (HET0.out.below WB.out)
  have y0 : W.cell? ⟨fb, 0, none⟩ = some (.int .i64 k) := block_cell (H.out.below WB.out) 0
  have y1 : W.cell? ⟨fb, 1, none⟩ = some (.int .i64 a) := block_cell (H.out.below WB.out) 1
  have z0 : W.cell? ⟨b3, 0, none⟩ = some (.int .i64 k) := block_cell W3.out 0
  have z1 : W.cell? ⟨b3, 1, none⟩ = some (.int .i64 a) := block_cell W3.out 1
  have HGB : Hid (w.heap.size ≤ gb) := Lib.hid (by omega)
  clear hW hb3 hgb
  obtain ⟨VO, hVO⟩ : ∃ VO : Nat → Option Nat, VO = fun j => if j = 2 then some (gb) else none := ⟨_, rfl⟩
  have vok : VO 2 = some (gb) := by rw [hVO]; rfl
  have von : ∀ j, j ≠ 2 → VO j = none := fun j h1 => by rw [hVO]; simp [h1]
  have vob : ∀ j b, b ≠ gb → VO j ≠ some b := fun j b hb => by
    by_cases h : j = 2
    · subst h; rw [vok]; simp; exact fun e => hb e.symm
    · rw [von j h]; simp
  clear hVO
  have xrefl : ∀ j w, (fun (_ : Nat) (w1 w2 : World) => w1.heap[gb]? = some (.cells #[.pointer (some ⟨fb, 0, none⟩)] 127 (0, 0)) → w2.heap[gb]? = some (.cells #[.pointer (some ⟨fb, 0, none⟩)] 127 (0, 0))) j w w := fun j w h => h
  have voi : ∀ i j b, VO i = some b → VO j = some b → i = j := fun i j b h1 h2 => by
    by_cases e1 : i = 2
    · by_cases e2 : j = 2
      · rw [e1, e2]
      · rw [von j e2] at h2; cases h2
    · rw [von i e1] at h1; cases h1
  refine wp_region_tailV 17 VO voi (fun (_ : Nat) (w1 w2 : World) => w1.heap[gb]? = some (.cells #[.pointer (some ⟨fb, 0, none⟩)] 127 (0, 0)) → w2.heap[gb]? = some (.cells #[.pointer (some ⟨fb, 0, none⟩)] 127 (0, 0))) (fun _ => True) (fun _ _ _ _ _ => True) xrefl trivial (phis [fun u _ => u = (.iface 127 (.pointer (some ⟨fb, 0, none⟩))), fun u _ => u = (.iface 129 (.pointer (some ⟨gb, 0, none⟩))), fun u w' => u = .bool true ∧ w'.heap[gb]? = some (.cells #[.pointer (some ⟨fb, 0, none⟩)] 127 (0, 0)), fun u w' => u = .bool true ∧ w'.heap[gb]? = some (.cells #[.pointer (some ⟨fb, 0, none⟩)] 127 (0, 0)), fun u _ => u = (.pointer (some ⟨fb, 0, none⟩)), fun u _ => u = (.pointer (some ⟨fb, 0, none⟩)), fun u _ => u = (.agg #[.int .i64 k, .int .i64 a]), fun u _ => u = (.agg #[.int .i64 k, .int .i64 a]), fun u _ => u = (.bool true), fun u _ => u = (.bool true), fun u _ => u = (.bool true), fun u _ => u = (.iface 127 (.pointer (some ⟨fb, 0, none⟩))), fun u _ => u = (.pointer (some ⟨b3, 0, none⟩)), fun u _ => u = (.int .i64 k), fun u _ => u = (.iface 30 (.int .i64 k)), fun u _ => u = (.bool true), fun u _ => u = (.bool true)]) rfl (by kernel_rfl) (by kernel_rfl) (monoV_of ⟨monoV_eq, monoV_eq, ?m2, ?m3, monoV_eq, monoV_eq, monoV_eq, monoV_eq, monoV_eq, monoV_eq, monoV_eq, monoV_eq, monoV_eq, monoV_eq, monoV_eq, monoV_eq, monoV_eq, trivial⟩) (fun _ _ _ _ _ => trivial) (fun _ _ _ _ _ _ _ _ _ _ _ => trivial) (stepsV_of 17 ⟨?s0, ?s1, ?s2, ?s3, ?s4, ?s5, ?s6, ?s7, ?s8, ?s9, ?s10, ?s11, ?s12, ?s13, ?s14, ?s15, ?s16, trivial⟩) ?_
  case m2 =>
    exact fun j hj u w1 w2 he ⟨h1, h2⟩ => ⟨h1, he.2 h2⟩
  case m3 =>
    exact fun j hj u w1 w2 he ⟨h1, h2⟩ => ⟨h1, he.2 h2⟩
  case s0 =>
    refine stepV_val (v := (.iface 127 (.pointer (some ⟨fb, 0, none⟩)))) xrefl (fun _ _ _ _ => ⟨trivial, trivial⟩) (fun D av wv hE hO hD => ?_) (fun _ => rfl)
    have h0 : av.eval (.tmp 0) = (.iface 127 (.pointer (some ⟨fb, 0, none⟩))) := hO.2.2 0 rfl
    have f0 := (ev_form av 0).symm.trans h0
    refine ⟨rfl, ?_⟩
    simp [go_sem, f0]
  case s1 =>
    refine stepV_val (v := (.iface 129 (.pointer (some ⟨gb, 0, none⟩)))) xrefl (fun _ _ _ _ => ⟨trivial, trivial⟩) (fun D av wv hE hO hD => ?_) (fun _ => rfl)
    have h5 : av.eval (.tmp 5) = (.pointer (some ⟨gb, 0, none⟩)) := hO.2.2 5 rfl
    have f5 := (ev_form av 5).symm.trans h5
    refine ⟨rfl, ?_⟩
    simp [go_sem, f5]
  case s2 =>
    refine stepV_wp (fun D av wv hPP hE hO hD => ?_)
    have d20 : av.eval (.tmp 20) = (.iface 127 (.pointer (some ⟨fb, 0, none⟩))) := hD.1 rfl _ rfl
    have f20 := (ev_form av 20).symm.trans d20
    have d21 : av.eval (.tmp 21) = (.iface 129 (.pointer (some ⟨gb, 0, none⟩))) := hD.2.1 rfl _ rfl
    have f21 := (ev_form av 21).symm.trans d21
    refine ⟨rfl, ?_⟩
    have hg0 : wv.heap[gb]? = some (.cells #[.pointer none] 127 (0, 0)) := (hE.own gb vok (lt_of_block WG.out)).trans WG.out
    have het : ErrType wv := extS_cell hE.ext (fun j => vob j _ hgg) HET.out
    refine wp_of_callR (f := 71) (args := #[.iface 127 (.pointer (some ⟨fb, 0, none⟩)), .iface 129 (.pointer (some ⟨gb, 0, none⟩))]) (R := fun u w2 => (u = .bool true ∧ w2.heap[gb]? = some (.cells #[.pointer (some ⟨fb, 0, none⟩)] 127 (0, 0))) ∧ ExtB (some gb) wv w2) (by simp [go_sem, f20, f21]) ((as_fault fb gb none wv het hg0).mono (fun e w2 ⟨h1, h2, h3⟩ => ⟨_, h1, ⟨rfl, h3⟩, h2⟩)) (fun u w2 ⟨h1, h2⟩ => ⟨u, rfl, ⟨by rw [vok]; exact h2, fun _ => h1.2⟩, h1, fun _ _ _ _ _ => ⟨trivial, trivial⟩⟩)
  case s3 =>
    refine stepV_wp (fun D av wv hPP hE hO hD => ?_)
    have d22 : (fun u w' => u = .bool true ∧ w'.heap[gb]? = some (.cells #[.pointer (some ⟨fb, 0, none⟩)] 127 (0, 0))) (av.eval (.tmp 22)) wv := hD.1 rfl _ rfl
    refine ⟨rfl, ?_⟩
    obtain ⟨g1, g2⟩ := d22
    have f22 := (ev_form av 22).symm.trans g1
    exact wp_of_run (v := .bool true) (by simp [go_sem, f22]) ⟨_, rfl, esV_of_ext (Ext_refl _) (xrefl 0 _), ⟨rfl, g2⟩, fun _ _ _ _ _ => ⟨trivial, trivial⟩⟩
  case s4 =>
    refine stepV_val (v := (.pointer (some ⟨fb, 0, none⟩))) xrefl (fun _ _ _ _ => ⟨trivial, trivial⟩) (fun D av wv hE hO hD => ?_) (fun _ => rfl)
    have h5 : av.eval (.tmp 5) = (.pointer (some ⟨gb, 0, none⟩)) := hO.2.2 5 rfl
    have f5 := (ev_form av 5).symm.trans h5
    have d23 : (fun u w' => u = .bool true ∧ w'.heap[gb]? = some (.cells #[.pointer (some ⟨fb, 0, none⟩)] 127 (0, 0))) (av.eval (.tmp 23)) wv := hD.1 rfl _ rfl
    have g23 : av.eval (.tmp 23) = .bool true := d23.1
    have f23 := (ev_form av 23).symm.trans g23
    have y0 := extS_cell hE.ext (fun j => vob j _ hyg) y0
    have y1 := extS_cell hE.ext (fun j => vob j _ hyg) y1
    have z0 := extS_cell hE.ext (fun j => vob j _ hzg) z0
    have z1 := extS_cell hE.ext (fun j => vob j _ hzg) z1
    refine ⟨(wanted_of (d := 23) (b := true) (want := true) rfl rfl rfl g23), ?_⟩
    have q0 : wv.cell? ⟨gb, 0, none⟩ = some (.pointer (some ⟨fb, 0, none⟩)) := block_cell d23.2 0
    simp [go_sem, f5, q0]
  case s5 =>
    refine stepV_val (v := (.pointer (some ⟨fb, 0, none⟩))) xrefl (fun _ _ _ _ => ⟨trivial, trivial⟩) (fun D av wv hE hO hD => ?_) (fun _ => rfl)
    have d24 : av.eval (.tmp 24) = (.pointer (some ⟨fb, 0, none⟩)) := hD.1 rfl _ rfl
    have f24 := (ev_form av 24).symm.trans d24
    have d23 : (fun u w' => u = .bool true ∧ w'.heap[gb]? = some (.cells #[.pointer (some ⟨fb, 0, none⟩)] 127 (0, 0))) (av.eval (.tmp 23)) wv := hD.2.1 rfl _ rfl
    have g23 : av.eval (.tmp 23) = .bool true := d23.1
    have f23 := (ev_form av 23).symm.trans g23
    refine ⟨(wanted_of (d := 23) (b := true) (want := true) rfl rfl rfl g23), ?_⟩
    simp [go_sem, f24, f23]
  case s6 =>
    refine stepV_val (v := (.agg #[.int .i64 k, .int .i64 a])) xrefl (fun _ _ _ _ => ⟨trivial, trivial⟩) (fun D av wv hE hO hD => ?_) (fun _ => rfl)
    have d25 : av.eval (.tmp 25) = (.pointer (some ⟨fb, 0, none⟩)) := hD.1 rfl _ rfl
    have f25 := (ev_form av 25).symm.trans d25
    have d23 : (fun u w' => u = .bool true ∧ w'.heap[gb]? = some (.cells #[.pointer (some ⟨fb, 0, none⟩)] 127 (0, 0))) (av.eval (.tmp 23)) wv := hD.2.1 rfl _ rfl
    have g23 : av.eval (.tmp 23) = .bool true := d23.1
    have f23 := (ev_form av 23).symm.trans g23
    have y0 := extS_cell hE.ext (fun j => vob j _ hyg) y0
    have y1 := extS_cell hE.ext (fun j => vob j _ hyg) y1
    have z0 := extS_cell hE.ext (fun j => vob j _ hzg) z0
    have z1 := extS_cell hE.ext (fun j => vob j _ hzg) z1
    refine ⟨(wanted_of (d := 23) (b := true) (want := true) rfl rfl rfl g23), ?_⟩
    simp [go_sem, f25, f23, y0, y1, z0, z1]
  case s7 =>
    refine stepV_val (v := (.agg #[.int .i64 k, .int .i64 a])) xrefl (fun _ _ _ _ => ⟨trivial, trivial⟩) (fun D av wv hE hO hD => ?_) (fun _ => rfl)
    have h3 : av.eval (.tmp 3) = (.pointer (some ⟨b3, 0, none⟩)) := hO.2.2 3 rfl
    have f3 := (ev_form av 3).symm.trans h3
    have d23 : (fun u w' => u = .bool true ∧ w'.heap[gb]? = some (.cells #[.pointer (some ⟨fb, 0, none⟩)] 127 (0, 0))) (av.eval (.tmp 23)) wv := hD.1 rfl _ rfl
    have g23 : av.eval (.tmp 23) = .bool true := d23.1
    have f23 := (ev_form av 23).symm.trans g23
    have y0 := extS_cell hE.ext (fun j => vob j _ hyg) y0
    have y1 := extS_cell hE.ext (fun j => vob j _ hyg) y1
    have z0 := extS_cell hE.ext (fun j => vob j _ hzg) z0
    have z1 := extS_cell hE.ext (fun j => vob j _ hzg) z1
    refine ⟨(wanted_of (d := 23) (b := true) (want := true) rfl rfl rfl g23), ?_⟩
    simp [go_sem, f3, f23, y0, y1, z0, z1]
  case s8 =>
    refine stepV_val (v := (.bool true)) xrefl (fun _ _ _ _ => ⟨trivial, trivial⟩) (fun D av wv hE hO hD => ?_) (fun _ => rfl)
    have d26 : av.eval (.tmp 26) = (.agg #[.int .i64 k, .int .i64 a]) := hD.1 rfl _ rfl
    have f26 := (ev_form av 26).symm.trans d26
    have d27 : av.eval (.tmp 27) = (.agg #[.int .i64 k, .int .i64 a]) := hD.2.1 rfl _ rfl
    have f27 := (ev_form av 27).symm.trans d27
    have d23 : (fun u w' => u = .bool true ∧ w'.heap[gb]? = some (.cells #[.pointer (some ⟨fb, 0, none⟩)] 127 (0, 0))) (av.eval (.tmp 23)) wv := hD.2.2.1 rfl _ rfl
    have g23 : av.eval (.tmp 23) = .bool true := d23.1
    have f23 := (ev_form av 23).symm.trans g23
    refine ⟨(wanted_of (d := 23) (b := true) (want := true) rfl rfl rfl g23), ?_⟩
    simp [go_sem, f26, f27, f23]
  case s9 =>
    refine stepV_val (v := (.bool true)) xrefl (fun _ _ _ _ => ⟨trivial, trivial⟩) (fun D av wv hE hO hD => ?_) (fun _ => rfl)
    have d23 : (fun u w' => u = .bool true ∧ w'.heap[gb]? = some (.cells #[.pointer (some ⟨fb, 0, none⟩)] 127 (0, 0))) (av.eval (.tmp 23)) wv := hD.1 rfl _ rfl
    have g23 : av.eval (.tmp 23) = .bool true := d23.1
    have f23 := (ev_form av 23).symm.trans g23
    have d28 : av.eval (.tmp 28) = (.bool true) := hD.2.1 rfl _ rfl
    have f28 := (ev_form av 28).symm.trans d28
    refine ⟨rfl, ?_⟩
    simp [go_sem, f23, f28]
  case s10 =>
    refine stepV_val (v := (.bool true)) xrefl (fun _ _ _ _ => ⟨trivial, trivial⟩) (fun D av wv hE hO hD => ?_) (fun _ => rfl)
    have d29 : av.eval (.tmp 29) = (.bool true) := hD.1 rfl _ rfl
    have f29 := (ev_form av 29).symm.trans d29
    refine ⟨rfl, ?_⟩
    simp [go_sem, f29]
  case s11 =>
    refine stepV_val (v := (.iface 127 (.pointer (some ⟨fb, 0, none⟩)))) xrefl (fun _ _ _ _ => ⟨trivial, trivial⟩) (fun D av wv hE hO hD => ?_) (fun _ => rfl)
    have h0 : av.eval (.tmp 0) = (.iface 127 (.pointer (some ⟨fb, 0, none⟩))) := hO.2.2 0 rfl
    have f0 := (ev_form av 0).symm.trans h0
    have d30 : av.eval (.tmp 30) = (.bool true) := hD.1 rfl _ rfl
    have f30 := (ev_form av 30).symm.trans d30
    refine ⟨(wanted_of (d := 30) (b := true) (want := true) rfl rfl rfl d30), ?_⟩
    simp [go_sem, f0, f30]
  case s12 =>
    refine stepV_val (v := (.pointer (some ⟨b3, 0, none⟩))) xrefl (fun _ _ _ _ => ⟨trivial, trivial⟩) (fun D av wv hE hO hD => ?_) (fun _ => rfl)
    have h3 : av.eval (.tmp 3) = (.pointer (some ⟨b3, 0, none⟩)) := hO.2.2 3 rfl
    have f3 := (ev_form av 3).symm.trans h3
    have d30 : av.eval (.tmp 30) = (.bool true) := hD.1 rfl _ rfl
    have f30 := (ev_form av 30).symm.trans d30
    refine ⟨(wanted_of (d := 30) (b := true) (want := true) rfl rfl rfl d30), ?_⟩
    simp [go_sem, f3, f30]
  case s13 =>
    refine stepV_val (v := (.int .i64 k)) xrefl (fun _ _ _ _ => ⟨trivial, trivial⟩) (fun D av wv hE hO hD => ?_) (fun _ => rfl)
    have d32 : av.eval (.tmp 32) = (.pointer (some ⟨b3, 0, none⟩)) := hD.1 rfl _ rfl
    have f32 := (ev_form av 32).symm.trans d32
    have d30 : av.eval (.tmp 30) = (.bool true) := hD.2.1 rfl _ rfl
    have f30 := (ev_form av 30).symm.trans d30
    have y0 := extS_cell hE.ext (fun j => vob j _ hyg) y0
    have y1 := extS_cell hE.ext (fun j => vob j _ hyg) y1
    have z0 := extS_cell hE.ext (fun j => vob j _ hzg) z0
    have z1 := extS_cell hE.ext (fun j => vob j _ hzg) z1
    refine ⟨(wanted_of (d := 30) (b := true) (want := true) rfl rfl rfl d30), ?_⟩
    simp [go_sem, f32, f30, y0, y1, z0, z1]
  case s14 =>
    refine stepV_val (v := (.iface 30 (.int .i64 k))) xrefl (fun _ _ _ _ => ⟨trivial, trivial⟩) (fun D av wv hE hO hD => ?_) (fun _ => rfl)
    have d33 : av.eval (.tmp 33) = (.int .i64 k) := hD.1 rfl _ rfl
    have f33 := (ev_form av 33).symm.trans d33
    have d30 : av.eval (.tmp 30) = (.bool true) := hD.2.1 rfl _ rfl
    have f30 := (ev_form av 30).symm.trans d30
    refine ⟨(wanted_of (d := 30) (b := true) (want := true) rfl rfl rfl d30), ?_⟩
    simp [go_sem, f33, f30]
  case s15 =>
    refine stepV_wp (fun D av wv hPP hE hO hD => ?_)
    have d31 : av.eval (.tmp 31) = (.iface 127 (.pointer (some ⟨fb, 0, none⟩))) := hD.1 rfl _ rfl
    have f31 := (ev_form av 31).symm.trans d31
    have d34 : av.eval (.tmp 34) = (.iface 30 (.int .i64 k)) := hD.2.1 rfl _ rfl
    have f34 := (ev_form av 34).symm.trans d34
    have d30 : av.eval (.tmp 30) = (.bool true) := hD.2.2.1 rfl _ rfl
    have f30 := (ev_form av 30).symm.trans d30
    refine ⟨(wanted_of (d := 30) (b := true) (want := true) rfl rfl rfl d30), ?_⟩
    refine wp_of_callR (f := 72) (args := #[.iface 127 (.pointer (some ⟨fb, 0, none⟩)), .iface 30 (.int .i64 k)]) (R := fun u w2 => u = .bool true ∧ w2 = wv) (by simp [go_sem, f31, f34]) ((is_fault fb k k wv (extS_cell hE.ext (fun j => vob j _ hyg) y0)).mono (fun e w2 ⟨h1, h2⟩ => ⟨_, h1, by simp, h2⟩)) (fun u w2 ⟨h1, h2⟩ => ⟨u, rfl, esV_of_ext (by rw [h2]; exact Ext_refl _) (by rw [h2]; exact xrefl 0 _), h1, fun _ _ _ _ _ => ⟨trivial, trivial⟩⟩)
  case s16 =>
    refine stepV_val (v := (.bool true)) xrefl (fun _ _ _ _ => ⟨trivial, trivial⟩) (fun D av wv hE hO hD => ?_) (fun _ => rfl)
    have d30 : av.eval (.tmp 30) = (.bool true) := hD.1 rfl _ rfl
    have f30 := (ev_form av 30).symm.trans d30
    have d35 : av.eval (.tmp 35) = (.bool true) := hD.2.1 rfl _ rfl
    have f35 := (ev_form av 35).symm.trans d35
    refine ⟨rfl, ?_⟩
    simp [go_sem, f30, f35]
  intro a' w' hE _ hO hall _
  have hA := act_of_outer (ds := [20, 21, 22, 23, 24, 25, 26, 27, 28, 29, 30, 31, 32, 33, 34, 35, 36]) rfl hO (by kernel_rfl)
  have e20 : (fun u _ => u = (.iface 127 (.pointer (some ⟨fb, 0, none⟩)))) (a'.eval (.tmp 20)) w' := hall.1 _ rfl
  have e21 : (fun u _ => u = (.iface 129 (.pointer (some ⟨gb, 0, none⟩)))) (a'.eval (.tmp 21)) w' := hall.2.1 _ rfl
  have e22 : (fun u w' => u = .bool true ∧ w'.heap[gb]? = some (.cells #[.pointer (some ⟨fb, 0, none⟩)] 127 (0, 0))) (a'.eval (.tmp 22)) w' := hall.2.2.1 _ rfl
  have e23 : (fun u w' => u = .bool true ∧ w'.heap[gb]? = some (.cells #[.pointer (some ⟨fb, 0, none⟩)] 127 (0, 0))) (a'.eval (.tmp 23)) w' := hall.2.2.2.1 _ rfl
  have e24 : (fun u _ => u = (.pointer (some ⟨fb, 0, none⟩))) (a'.eval (.tmp 24)) w' := hall.2.2.2.2.1 _ rfl
  have e25 : (fun u _ => u = (.pointer (some ⟨fb, 0, none⟩))) (a'.eval (.tmp 25)) w' := hall.2.2.2.2.2.1 _ rfl
  have e26 : (fun u _ => u = (.agg #[.int .i64 k, .int .i64 a])) (a'.eval (.tmp 26)) w' := hall.2.2.2.2.2.2.1 _ rfl
  have e27 : (fun u _ => u = (.agg #[.int .i64 k, .int .i64 a])) (a'.eval (.tmp 27)) w' := hall.2.2.2.2.2.2.2.1 _ rfl
  have e28 : (fun u _ => u = (.bool true)) (a'.eval (.tmp 28)) w' := hall.2.2.2.2.2.2.2.2.1 _ rfl
  have e29 : (fun u _ => u = (.bool true)) (a'.eval (.tmp 29)) w' := hall.2.2.2.2.2.2.2.2.2.1 _ rfl
  have e30 : (fun u _ => u = (.bool true)) (a'.eval (.tmp 30)) w' := hall.2.2.2.2.2.2.2.2.2.2.1 _ rfl
  have e31 : (fun u _ => u = (.iface 127 (.pointer (some ⟨fb, 0, none⟩)))) (a'.eval (.tmp 31)) w' := hall.2.2.2.2.2.2.2.2.2.2.2.1 _ rfl
  have e32 : (fun u _ => u = (.pointer (some ⟨b3, 0, none⟩))) (a'.eval (.tmp 32)) w' := hall.2.2.2.2.2.2.2.2.2.2.2.2.1 _ rfl
  have e33 : (fun u _ => u = (.int .i64 k)) (a'.eval (.tmp 33)) w' := hall.2.2.2.2.2.2.2.2.2.2.2.2.2.1 _ rfl
  have e34 : (fun u _ => u = (.iface 30 (.int .i64 k))) (a'.eval (.tmp 34)) w' := hall.2.2.2.2.2.2.2.2.2.2.2.2.2.2.1 _ rfl
  have e35 : (fun u _ => u = (.bool true)) (a'.eval (.tmp 35)) w' := hall.2.2.2.2.2.2.2.2.2.2.2.2.2.2.2.1 _ rfl
  have e36 : (fun u _ => u = (.bool true)) (a'.eval (.tmp 36)) w' := hall.2.2.2.2.2.2.2.2.2.2.2.2.2.2.2.2.1 _ rfl
  obtain ⟨v22, hv22⟩ : ∃ v, a'.eval (.tmp 22) = v := ⟨_, rfl⟩
  rw [hv22] at e22
  obtain ⟨v23, hv23⟩ : ∃ v, a'.eval (.tmp 23) = v := ⟨_, rfl⟩
  rw [hv23] at e23
  simp only [List.foldl_cons, List.foldl_nil, Act.put, List.setIfInBounds_toArray, List.set_cons_succ, List.set_cons_zero, e20, e21, hv22, hv23, e24, e25, e26, e27, e28, e29, e30, e31, e32, e33, e34, e35, e36] at hA
  clear hO hall e20 e21 hv22 hv23 e24 e25 e26 e27 e28 e29 e30 e31 e32 e33 e34 e35 e36
  subst hA
  have HX : Hid (ExtS VO W w') := Lib.hid ⟨hE.os, hE.tape, hE.output, hE.size, hE.block⟩
  have HV : Hid (∀ j b, b ≠ gb → VO j ≠ some b) := Lib.hid vob
  clear hE vob von vok voi xrefl y0 y1 z0 z1
  go_wp2
  go_ret
  exact ⟨rfl, HX.out.os.trans WB.out.os, HX.out.tape.trans WB.out.tape, HX.out.output.trans WB.out.output, Nat.le_trans WB.out.size HX.out.size, fun i hi => (HX.out.block i (Nat.lt_of_lt_of_le hi WB.out.size) (fun j => HV.out j i (by have := HGB.out; omega))).trans (WB.out.block i hi)⟩
end Go.Proofs.YtihiaopilnjonaaGreatDoor
namespace Go.Proofs
set_option linter.unusedSimpArgs false
set_option linter.unusedVariables false
open Go.Shelf
def Tryz.lays105_ren : Go.Shelf.Ren := ⟨fun | 105 => 102 | 212 => 164 | 99 => 165 | 165 => 166 | 166 => 167 | 170 => 168 | 169 => 169 | 263 => 234 | 264 => 235 | 206 => 236 | 240 => 237 | 241 => 238 | 276 => 257 | 277 => 258 | n => n, fun | 9 => 9 | 3 => 3 | 4 => 4 | 20 => 20 | 0 => 0 | 46 => 251 | 109 => 252 | 5 => 5 | 72 => 257 | 76 => 259 | 51 => 315 | 146 => 316 | 53 => 23 | 148 => 318 | 70 => 255 | 37 => 106 | 75 => 59 | 127 => 320 | 164 => 211 | 80 => 144 | n => n, fun | n => n⟩
theorem Tryz.lays105 : Go.Proofs.Lays.n105 Tryz.prog Tryz.lays105_ren := {
  mixed := by kernel_rfl
  f99 := Tryz.func165.trans (congrArg some (by kernel_rfl))
  f105 := Tryz.func102.trans (congrArg some (by kernel_rfl))
  f165 := Tryz.func166.trans (congrArg some (by kernel_rfl))
  f166 := Tryz.func167.trans (congrArg some (by kernel_rfl))
  f169 := Tryz.func169.trans (congrArg some (by kernel_rfl))
  f170 := Tryz.func168.trans (congrArg some (by kernel_rfl))
  f206 := Tryz.func236.trans (congrArg some (by kernel_rfl))
  f212 := Tryz.func164.trans (congrArg some (by kernel_rfl))
  f240 := Tryz.func237.trans (congrArg some (by kernel_rfl))
  f241 := Tryz.func238.trans (congrArg some (by kernel_rfl))
  f263 := Tryz.func234.trans (congrArg some (by kernel_rfl))
  f264 := Tryz.func235.trans (congrArg some (by kernel_rfl))
  f276 := Tryz.func257.trans (congrArg some (by kernel_rfl))
  f277 := Tryz.func258.trans (congrArg some (by kernel_rfl))
  t0 := Tryz.underlying0
  a0 := Tryz.isAgg0
  z0 := Tryz.sizeOf0
  v0 := Tryz.zeroValue0
  t3 := Tryz.underlying3
  a3 := Tryz.isAgg3
  z3 := Tryz.sizeOf3
  v3 := Tryz.zeroValue3
  t4 := Tryz.underlying4
  a4 := Tryz.isAgg4
  z4 := Tryz.sizeOf4
  v4 := Tryz.zeroValue4
  t5 := Tryz.underlying5
  a5 := Tryz.isAgg5
  z5 := Tryz.sizeOf5
  v5 := Tryz.zeroValue5
  t9 := Tryz.underlying9
  a9 := Tryz.isAgg9
  z9 := Tryz.sizeOf9
  v9 := Tryz.zeroValue9
  t20 := Tryz.underlying20
  a20 := Tryz.isAgg20
  z20 := Tryz.sizeOf20
  v20 := Tryz.zeroValue20
  t37 := Tryz.underlying106
  a37 := Tryz.isAgg106
  z37 := Tryz.sizeOf106
  v37 := Tryz.zeroValue106
  t46 := Tryz.underlying251
  a46 := Tryz.isAgg251
  z46 := Tryz.sizeOf251
  v46 := Tryz.zeroValue251
  t51 := Tryz.underlying315
  a51 := Tryz.isAgg315
  z51 := Tryz.sizeOf315
  v51 := Tryz.zeroValue315
  t53 := Tryz.underlying23
  a53 := Tryz.isAgg23
  z53 := Tryz.sizeOf23
  v53 := Tryz.zeroValue23
  t70 := Tryz.underlying255
  a70 := Tryz.isAgg255
  z70 := Tryz.sizeOf255
  v70 := Tryz.zeroValue255
  t72 := Tryz.underlying257
  a72 := Tryz.isAgg257
  z72 := Tryz.sizeOf257
  v72 := Tryz.zeroValue257
  t75 := Tryz.underlying59
  a75 := Tryz.isAgg59
  z75 := Tryz.sizeOf59
  v75 := Tryz.zeroValue59
  t76 := Tryz.underlying259
  a76 := Tryz.isAgg259
  z76 := Tryz.sizeOf259
  v76 := Tryz.zeroValue259
  t109 := Tryz.underlying252
  a109 := Tryz.isAgg252
  z109 := Tryz.sizeOf252
  v109 := Tryz.zeroValue252
  t127 := Tryz.underlying320
  a127 := Tryz.isAgg320
  z127 := Tryz.sizeOf320
  v127 := Tryz.zeroValue320
  t146 := Tryz.underlying316
  a146 := Tryz.isAgg316
  z146 := Tryz.sizeOf316
  v146 := Tryz.zeroValue316
  t148 := Tryz.underlying318
  a148 := Tryz.isAgg318
  z148 := Tryz.sizeOf318
  v148 := Tryz.zeroValue318
  t164 := Tryz.underlying211
  a164 := Tryz.isAgg211
  z164 := Tryz.sizeOf211
  v164 := Tryz.zeroValue211 }
theorem Tryz.Builder_Extra_105 : Builder.Extra Tryz.prog Tryz.lays105_ren := {
  sizeBuilder := by kernel_rfl
  liesBuilder := by kernel_rfl
  t5 := Tryz.underlying5
  a5 := Tryz.isAgg5
  z5 := Tryz.sizeOf5
  v5 := Tryz.zeroValue5
  infoByte := by kernel_rfl
  cellsByte := by kernel_rfl
  sizeByte := by kernel_rfl
  neB5 := by decide }
open Go.RowKit Go.Lib in
theorem Tryz.strings_Repeat (s : ByteArray) (c : Nat) (w : World) (hc : c ≤ 9223372036854775807) (hlen : s.size * c ≤ 140737488355328) :
    Calls Tryz.prog 102 #[.string s, .int .i64 c] w fun e w' => e = .returned (.string ⟨(Lib.repeatL s.data.toList c).toArray⟩) ∧ Below w.heap.size w w' := Any.strings_Repeat Tryz.lays105 Tryz.Builder_Extra_105 s c w hc hlen
end Go.Proofs
namespace Go.Proofs.YtihiaopilnjonaaGreatDoor
open Go.RowKit
set_option linter.unusedSimpArgs false
set_option linter.unusedVariables false
def fullR : ByteArray := ⟨(Go.Lib.repeatL [114] 32).toArray⟩
theorem full_any (w : World) : Calls Tryz.prog 54 #[.string ⟨#[114]⟩] w fun e w' => e = .returned (.string fullR) ∧ Below w.heap.size w w' := by
  go_enter Tryz.func54, Tryz.ntmps54
  go_wp2_with fail
  refine (Tryz.strings_Repeat ⟨#[114]⟩ 32 _ (by decide) (by decide)).mono ?_
  rintro e w1 ⟨rfl, hb⟩
  go_wp2
  go_ret
  exact ⟨rfl, hb⟩
theorem conv_some (w : World) (B n cap : Nat) (h : ∀ j, j < n → ∃ v, w.cell? ⟨B, j, none⟩ = some (.int .u8 v)) : ∃ t : ByteArray, t.size = n ∧ (convert 106 9 (.slice (some ⟨B, 0, none⟩) n cap)).run Tryz.prog w = .ok (.string t) w := by
  have h' : ∀ j, ∃ v, j < n → w.cell? ⟨B, j, none⟩ = some (.int .u8 v) := fun j => by
    by_cases hj : j < n
    · obtain ⟨v, hv⟩ := h j hj; exact ⟨v, fun _ => hv⟩
    · exact ⟨0, fun h => absurd h hj⟩
  let f : Nat → Int := fun j => Classical.choose (h' j)
  have hf : ∀ j, j < n → w.cell? ⟨B, j, none⟩ = some (.int .u8 (f j)) := fun j => Classical.choose_spec (h' j)
  refine ⟨strOfNums ((List.range n).map f), by rw [strOfNums_size]; simp, ?_⟩
  exact run_convert_bytes_arg (P := Tryz.prog) w 106 5 Tryz.underlying106 Tryz.underlying5 B 0 n cap ((List.range n).map f) (by simp) (fun i hi => by
    rw [Nat.zero_add, hf i hi]
    simp [hi]) 9 Tryz.underlying9
theorem bworld_below (w : World) (e : TypeId) (s : ByteArray) : Below w.heap.size w (Lib.bytesWorld w e s) := by
  have h : Below w.heap.size w (w.drew.alloc (.cells (Lib.bytesCells w e s) e)) := ((Below.refl _ _).drew).alloc (by simp) _
  exact ⟨h.os, h.tape, h.output, by rw [Lib.bytesWorld_size]; omega, fun i hi => Lib.bytesWorld_at_old _ _ _ _ hi⟩
set_option maxRecDepth 100000 in
set_option maxHeartbeats 4000000 in
theorem turned_any (s : ByteArray) (a y st : Int) (w : World) (ha : 0 ≤ a ∧ a ≤ 65535) (hy : 0 ≤ y ∧ y ≤ 255) (hs : s.size ≤ 140737488355328) : Calls Tryz.prog 28 #[.string s, .agg #[.int .u16 a, .int .u8 y, .int .i64 st]] w fun e w' => ∃ t : ByteArray, e = .returned (.string t) ∧ t.size ≤ s.size ∧ Below w.heap.size w w' := by
  obtain ⟨tb, htb⟩ : ∃ tb, w.heap.size = tb := ⟨_, rfl⟩
  obtain ⟨n, hn⟩ : ∃ n, s.size = n := ⟨_, rfl⟩
  go_enter Tryz.func28, Tryz.ntmps28
  go_upto_region 1 with fail
  obtain ⟨V, hV⟩ : ∃ V, w.alloc (.cells #[.int .u16 a, .int .u8 y, .int .i64 st] 55) = V := ⟨_, rfl⟩
  rw [hV]
  have VB : Hid (Below w.heap.size w V) := Lib.hid (by rw [← hV]; exact balloc (Below.refl _ _) _)
  have VT : Hid (V.heap[tb]? = some (.cells #[.int .u16 a, .int .u8 y, .int .i64 st] 55 (0, 0))) := Lib.hid (by rw [← hV, ← htb]; exact heap_alloc_new _ _)
  have VS : Hid (V.heap.size = tb + 1) := Lib.hid (by rw [← hV, ← htb]; simp)
  clear hV
  have hc := Lib.run_convert_string_bytes (P := Tryz.prog) V 9 106 5 s Tryz.underlying9 Tryz.underlying106 Tryz.underlying5
  go_upto_region 2 with fail
  obtain ⟨cap, hcap⟩ : ∃ cap, grownCap V n 0 5 = cap := ⟨_, rfl⟩
  obtain ⟨W, hW⟩ : ∃ W, Lib.bytesWorld V 5 s = W := ⟨_, rfl⟩
  obtain ⟨B, hB⟩ : ∃ B, V.heap.size = B := ⟨_, rfl⟩
  obtain ⟨cs, hcs⟩ : ∃ cs, Lib.bytesCells V 5 s = cs := ⟨_, rfl⟩
  have HBK0 := Lib.bytesWorld_at_new V 5 s
  have HCE0 := fun j (hj : j < s.size) => Lib.bytesWorld_cell V 5 s j hj
  have WB : Hid (Below w.heap.size w W) := Lib.hid (by rw [← hW]; exact bnext VB.out (bworld_below V 5 s))
  have WT : Hid (W.heap[tb]? = some (.cells #[.int .u16 a, .int .u8 y, .int .i64 st] 55 (0, 0))) := Lib.hid (by rw [← hW]; exact ((bworld_below V 5 s).block tb (by have := VS.out; omega)).trans VT.out)
  have CAP : Hid (n ≤ cap) := Lib.hid (by rw [← hcap]; exact grownCap_ge _ _ _ _)
  simp only [hcap, hW, hB]
  rw [hW, hB] at HBK0
  rw [hcs] at HBK0
  have HCE : Hid (∀ j, j < s.size → cs[j]? = some (.int .u8 (byte s j))) := Lib.hid (fun j hj => by have := HCE0 j hj; rw [hW, hB] at this; exact (block_cell HBK0 j).symm.trans this)
  obtain ⟨fr, hfr⟩ : ∃ fr, (cs.size, cs.size + 1) = fr := ⟨_, rfl⟩
  rw [hfr] at HBK0
  have HFR : Hid (fr = (cs.size, cs.size + 1)) := Lib.hid hfr.symm
  have HBK := Lib.hid HBK0
  have htB : tb ≠ B := by have := VS.out; omega
  have HWB : Hid (w.heap.size ≤ B) := Lib.hid (by have := VS.out; omega)
  clear HBK0 HCE0 hc hW hcs hcap hfr
  rw [hn] at HCE
  have HN := Lib.hid hn
  clear hn
  by_cases h0 : n = 0
  · have hpos : decide (0 < n) = false := by simp; omega
    have H0 := Lib.hid h0
    clear h0
    go_upto_region 4 with fail
    obtain ⟨W2, hW2⟩ : ∃ W2, W = W2 := ⟨_, rfl⟩
    rw [hW2] at WB WT ⊢
    have W2B := WB
    have HT := Lib.hid (block_cell WT.out 2)
    have HC : Hid (∀ j, j < n → ∃ v, W2.cell? ⟨B, j, none⟩ = some (.int .u8 v)) := Lib.hid (fun j hj => absurd hj (by have := H0.out; omega))
    clear hW2
    rcases Int.lt_or_le st 0 with c1 | c1
    · have b1 : decide (0 ≤ st) = false := by simp; omega
      obtain ⟨t, ht, hcv⟩ := conv_some W2 B n cap HC.out
      have HCV := Lib.hid ht
      have q2 := HT.out
      clear ht
      go_wp2
      go_ret
      exact ⟨t, rfl, by rw [HCV.out, HN.out]; exact Nat.le_refl _, by have := W2B.out; exact this⟩
    · obtain ⟨m, rfl⟩ := Int.eq_ofNat_of_zero_le c1
      have b1 : decide (0 ≤ (m : Int)) = true := by simp
      by_cases c2 : m < n
      · have b2 : decide (m < n) = true := by simp; exact c2
        obtain ⟨t, ht, hcv⟩ := conv_some W2 B m cap (fun j hj => HC.out j (Nat.lt_trans hj c2))
        have HCV := Lib.hid ht
        have q2 := HT.out
        have c3 : m ≤ cap := by have := CAP.out; omega
        have c4 : (cap < m) = False := by simp; omega
        clear ht
        go_wp2
        go_ret
        exact ⟨t, rfl, by rw [HCV.out, HN.out]; omega, by have := W2B.out; exact this⟩
      · have b2 : decide (m < n) = false := by simp; omega
        obtain ⟨t, ht, hcv⟩ := conv_some W2 B n cap HC.out
        have HCV := Lib.hid ht
        have q2 := HT.out
        clear ht
        go_wp2
        go_ret
        exact ⟨t, rfl, by rw [HCV.out, HN.out]; exact Nat.le_refl _, by have := W2B.out; exact this⟩
  · have hpos : decide (0 < n) = true := by simp; omega
    obtain ⟨k, hk⟩ : ∃ k : Nat, a.toNat % n = k := ⟨_, rfl⟩
    have hkn : k < n := by rw [← hk]; exact Nat.mod_lt _ (by omega)
    have KK : Hid (a.tmod (n : Int) = (k : Int)) := Lib.hid (by rw [← hk]; exact (congrArg (fun z => Int.tmod z (n : Int)) (Int.toNat_of_nonneg ha.1).symm).trans (Int.ofNat_tmod _ _).symm)
    obtain ⟨x, hx⟩ : ∃ x, byte s k = x := ⟨_, rfl⟩
    have QK : Hid (cs[k]? = some (.int .u8 x)) := Lib.hid (by rw [← hx]; exact HCE.out k hkn)
    have FZ : Hid (W.frozen? ⟨B, k, none⟩ = false) := Lib.hid (by unfold World.frozen?; rw [HBK.out]; have := (Array.getElem?_eq_some_iff.1 QK.out).1; rw [HFR.out]; simp; omega)
    have hBl : B < W.heap.size := lt_of_block HBK.out
    have y0 : W.cell? ⟨tb, 0, none⟩ = some (.int .u16 a) := block_cell WT.out 0
    have y1 : W.cell? ⟨tb, 1, none⟩ = some (.int .u8 y) := block_cell WT.out 1
    obtain ⟨z, r4⟩ : ∃ z : Int, bits BinOp.xor IntKind.u8 x y = z := ⟨_, rfl⟩
    have q0 : W.cell? ⟨B, k, none⟩ = some (.int .u8 x) := (block_cell HBK.out k).trans QK.out
    have r0 : IntKind.i64.wrap a = a := wrap_small a ha.1 (by omega)
    have r1 : (n = 0) = False := by simp [h0]
    have r2 : a.tmod (n : Int) = (k : Int) := KK.out
    have r3 : (n ≤ k) = False := by simp; omega
    go_upto_region 3 with fail
    refine wp_region_tail 13 1000 (none) (phis [fun u _ => u = (.slice (some ⟨B, 0, none⟩) n cap), fun u _ => u = (.pointer (some ⟨tb, 0, none⟩)), fun u _ => u = (.int .u16 a), fun u _ => u = (.int .i64 a), fun u _ => u = (.slice (some ⟨B, 0, none⟩) n cap), fun u _ => u = (.int .i64 n), fun u _ => u = (.int .i64 k), fun u _ => u = (.pointer (some ⟨B, k, none⟩)), fun u _ => u = (.int .u8 x), fun u _ => u = (.pointer (some ⟨tb, 1, none⟩)), fun u _ => u = (.int .u8 y), fun u _ => u = (.int .u8 z), fun u _ => u = (.pointer (some ⟨B, k, none⟩))]) rfl (by kernel_rfl) (by kernel_rfl) (mono_of ⟨mono_eq, mono_eq, mono_eq, mono_eq, mono_eq, mono_eq, mono_eq, mono_eq, mono_eq, mono_eq, mono_eq, mono_eq, mono_eq, trivial⟩) (steps_of 13 ⟨?s0, ?s1, ?s2, ?s3, ?s4, ?s5, ?s6, ?s7, ?s8, ?s9, ?s10, ?s11, ?s12, trivial⟩) ?_
    case s0 =>
      refine step_val (v := (.slice (some ⟨B, 0, none⟩) n cap)) (fun av wv hE hS hO hD => ?_) (fun _ => rfl)
      have h5 : av.eval (.tmp 5) = (.slice (some ⟨B, 0, none⟩) n cap) := hO.2.2 5 rfl
      have f5 := (ev_form av 5).symm.trans h5
      refine ⟨rfl, ?_⟩
      simp [go_sem, f5, r0, r1, r2, r3, r4]
    case s1 =>
      refine step_val (v := (.pointer (some ⟨tb, 0, none⟩))) (fun av wv hE hS hO hD => ?_) (fun _ => rfl)
      have h3 : av.eval (.tmp 3) = (.pointer (some ⟨tb, 0, none⟩)) := hO.2.2 3 rfl
      have f3 := (ev_form av 3).symm.trans h3
      refine ⟨rfl, ?_⟩
      simp [go_sem, f3, r0, r1, r2, r3, r4]
    case s2 =>
      refine step_val (v := (.int .u16 a)) (fun av wv hE hS hO hD => ?_) (fun _ => rfl)
      have d12 : av.eval (.tmp 12) = (.pointer (some ⟨tb, 0, none⟩)) := hD.1 rfl _ rfl
      have f12 := (ev_form av 12).symm.trans d12
      have y0 := extB_cell hE (by simp) y0
      have y1 := extB_cell hE (by simp) y1
      have q0 := extB_cell hE (by simp) q0
      refine ⟨rfl, ?_⟩
      simp [go_sem, f12, y0, y1, q0, r0, r1, r2, r3, r4]
    case s3 =>
      refine step_val (v := (.int .i64 a)) (fun av wv hE hS hO hD => ?_) (fun _ => rfl)
      have d13 : av.eval (.tmp 13) = (.int .u16 a) := hD.1 rfl _ rfl
      have f13 := (ev_form av 13).symm.trans d13
      refine ⟨rfl, ?_⟩
      simp [go_sem, f13, r0, r1, r2, r3, r4]
    case s4 =>
      refine step_val (v := (.slice (some ⟨B, 0, none⟩) n cap)) (fun av wv hE hS hO hD => ?_) (fun _ => rfl)
      have h5 : av.eval (.tmp 5) = (.slice (some ⟨B, 0, none⟩) n cap) := hO.2.2 5 rfl
      have f5 := (ev_form av 5).symm.trans h5
      refine ⟨rfl, ?_⟩
      simp [go_sem, f5, r0, r1, r2, r3, r4]
    case s5 =>
      refine step_val (v := (.int .i64 n)) (fun av wv hE hS hO hD => ?_) (fun _ => rfl)
      have d15 : av.eval (.tmp 15) = (.slice (some ⟨B, 0, none⟩) n cap) := hD.1 rfl _ rfl
      have f15 := (ev_form av 15).symm.trans d15
      refine ⟨rfl, ?_⟩
      simp [go_sem, f15, r0, r1, r2, r3, r4]
    case s6 =>
      refine step_val (v := (.int .i64 k)) (fun av wv hE hS hO hD => ?_) (fun _ => rfl)
      have d14 : av.eval (.tmp 14) = (.int .i64 a) := hD.1 rfl _ rfl
      have f14 := (ev_form av 14).symm.trans d14
      have d16 : av.eval (.tmp 16) = (.int .i64 n) := hD.2.1 rfl _ rfl
      have f16 := (ev_form av 16).symm.trans d16
      refine ⟨rfl, ?_⟩
      simp [go_sem, f14, f16, r0, r1, r2, r3, r4]
    case s7 =>
      refine step_val (v := (.pointer (some ⟨B, k, none⟩))) (fun av wv hE hS hO hD => ?_) (fun _ => rfl)
      have d11 : av.eval (.tmp 11) = (.slice (some ⟨B, 0, none⟩) n cap) := hD.1 rfl _ rfl
      have f11 := (ev_form av 11).symm.trans d11
      have d17 : av.eval (.tmp 17) = (.int .i64 k) := hD.2.1 rfl _ rfl
      have f17 := (ev_form av 17).symm.trans d17
      refine ⟨rfl, ?_⟩
      simp [go_sem, f11, f17, r0, r1, r2, r3, r4]
    case s8 =>
      refine step_val (v := (.int .u8 x)) (fun av wv hE hS hO hD => ?_) (fun _ => rfl)
      have d18 : av.eval (.tmp 18) = (.pointer (some ⟨B, k, none⟩)) := hD.1 rfl _ rfl
      have f18 := (ev_form av 18).symm.trans d18
      have y0 := extB_cell hE (by simp) y0
      have y1 := extB_cell hE (by simp) y1
      have q0 := extB_cell hE (by simp) q0
      refine ⟨rfl, ?_⟩
      simp [go_sem, f18, y0, y1, q0, r0, r1, r2, r3, r4]
    case s9 =>
      refine step_val (v := (.pointer (some ⟨tb, 1, none⟩))) (fun av wv hE hS hO hD => ?_) (fun _ => rfl)
      have h3 : av.eval (.tmp 3) = (.pointer (some ⟨tb, 0, none⟩)) := hO.2.2 3 rfl
      have f3 := (ev_form av 3).symm.trans h3
      refine ⟨rfl, ?_⟩
      simp [go_sem, f3, r0, r1, r2, r3, r4]
    case s10 =>
      refine step_val (v := (.int .u8 y)) (fun av wv hE hS hO hD => ?_) (fun _ => rfl)
      have d20 : av.eval (.tmp 20) = (.pointer (some ⟨tb, 1, none⟩)) := hD.1 rfl _ rfl
      have f20 := (ev_form av 20).symm.trans d20
      have y0 := extB_cell hE (by simp) y0
      have y1 := extB_cell hE (by simp) y1
      have q0 := extB_cell hE (by simp) q0
      refine ⟨rfl, ?_⟩
      simp [go_sem, f20, y0, y1, q0, r0, r1, r2, r3, r4]
    case s11 =>
      refine step_val (v := (.int .u8 z)) (fun av wv hE hS hO hD => ?_) (fun _ => rfl)
      have d19 : av.eval (.tmp 19) = (.int .u8 x) := hD.1 rfl _ rfl
      have f19 := (ev_form av 19).symm.trans d19
      have d21 : av.eval (.tmp 21) = (.int .u8 y) := hD.2.1 rfl _ rfl
      have f21 := (ev_form av 21).symm.trans d21
      refine ⟨rfl, ?_⟩
      simp [go_sem, f19, f21, r0, r1, r2, r3, r4]
    case s12 =>
      refine step_val (v := (.pointer (some ⟨B, k, none⟩))) (fun av wv hE hS hO hD => ?_) (fun _ => rfl)
      have d11 : av.eval (.tmp 11) = (.slice (some ⟨B, 0, none⟩) n cap) := hD.1 rfl _ rfl
      have f11 := (ev_form av 11).symm.trans d11
      have d17 : av.eval (.tmp 17) = (.int .i64 k) := hD.2.1 rfl _ rfl
      have f17 := (ev_form av 17).symm.trans d17
      refine ⟨rfl, ?_⟩
      simp [go_sem, f11, f17, r0, r1, r2, r3, r4]
    intro a' w' hE hO hall
    have hA := act_of_outer (ds := [11, 12, 13, 14, 15, 16, 17, 18, 19, 20, 21, 22, 23]) rfl hO (by kernel_rfl)
    have e11 : (fun u _ => u = (.slice (some ⟨B, 0, none⟩) n cap)) (a'.eval (.tmp 11)) w' := hall.1 _ rfl
    have e12 : (fun u _ => u = (.pointer (some ⟨tb, 0, none⟩))) (a'.eval (.tmp 12)) w' := hall.2.1 _ rfl
    have e13 : (fun u _ => u = (.int .u16 a)) (a'.eval (.tmp 13)) w' := hall.2.2.1 _ rfl
    have e14 : (fun u _ => u = (.int .i64 a)) (a'.eval (.tmp 14)) w' := hall.2.2.2.1 _ rfl
    have e15 : (fun u _ => u = (.slice (some ⟨B, 0, none⟩) n cap)) (a'.eval (.tmp 15)) w' := hall.2.2.2.2.1 _ rfl
    have e16 : (fun u _ => u = (.int .i64 n)) (a'.eval (.tmp 16)) w' := hall.2.2.2.2.2.1 _ rfl
    have e17 : (fun u _ => u = (.int .i64 k)) (a'.eval (.tmp 17)) w' := hall.2.2.2.2.2.2.1 _ rfl
    have e18 : (fun u _ => u = (.pointer (some ⟨B, k, none⟩))) (a'.eval (.tmp 18)) w' := hall.2.2.2.2.2.2.2.1 _ rfl
    have e19 : (fun u _ => u = (.int .u8 x)) (a'.eval (.tmp 19)) w' := hall.2.2.2.2.2.2.2.2.1 _ rfl
    have e20 : (fun u _ => u = (.pointer (some ⟨tb, 1, none⟩))) (a'.eval (.tmp 20)) w' := hall.2.2.2.2.2.2.2.2.2.1 _ rfl
    have e21 : (fun u _ => u = (.int .u8 y)) (a'.eval (.tmp 21)) w' := hall.2.2.2.2.2.2.2.2.2.2.1 _ rfl
    have e22 : (fun u _ => u = (.int .u8 z)) (a'.eval (.tmp 22)) w' := hall.2.2.2.2.2.2.2.2.2.2.2.1 _ rfl
    have e23 : (fun u _ => u = (.pointer (some ⟨B, k, none⟩))) (a'.eval (.tmp 23)) w' := hall.2.2.2.2.2.2.2.2.2.2.2.2.1 _ rfl
    simp only [List.foldl_cons, List.foldl_nil, Act.put, List.setIfInBounds_toArray, List.set_cons_succ, List.set_cons_zero, e11, e12, e13, e14, e15, e16, e17, e18, e19, e20, e21, e22, e23] at hA
    clear hO hall e11 e12 e13 e14 e15 e16 e17 e18 e19 e20 e21 e22 e23
    subst hA
    have hE' := of_drew hE
    clear y0 y1 q0 r0 r1 r2 r3 r4 hE
    have HE := Lib.hid hE'
    have HB1 : Hid (w'.heap[B]? = some (.cells cs 5 fr)) := Lib.hid ((hE'.block B hBl).trans HBK.out)
    have p0 : w'.cell? ⟨B, k, none⟩ = some (.int .u8 x) := (block_cell HB1.out k).trans QK.out
    have p1 : w'.frozen? ⟨B, k, none⟩ = false := by have := FZ.out; unfold World.frozen? at this ⊢; rw [HB1.out]; rw [HBK.out] at this; exact this
    clear hE'
    go_upto_region 4 with fail
    obtain ⟨W2, hW2⟩ : ∃ W2, w'.setCell ⟨B, k, none⟩ (.int .u8 z) = W2 := ⟨_, rfl⟩
    rw [hW2]
    have W2B : Hid (Below w.heap.size w W2) := Lib.hid (by rw [← hW2]; exact bset (bnext WB.out HE.out) HWB.out _)
    have HT := Lib.hid (block_cell (show W2.heap[tb]? = _ by rw [← hW2]; exact block_setCell_ne ((HE.out.block tb (lt_of_block WT.out)).trans WT.out) htB _) 2)
    have HC : Hid (∀ j, j < n → ∃ v, W2.cell? ⟨B, j, none⟩ = some (.int .u8 v)) := Lib.hid (fun j hj => by
      have e := block_cell (show W2.heap[B]? = _ by rw [← hW2]; exact block_setCell HB1.out _) j
      rw [e, Array.getElem?_setIfInBounds]
      by_cases h : k = j
      · subst h
        have := (Array.getElem?_eq_some_iff.1 QK.out).1
        simp [this]
      · rw [if_neg h]; exact ⟨_, HCE.out j hj⟩)
    clear hW2 p0 p1
    rcases Int.lt_or_le st 0 with c1 | c1
    · have b1 : decide (0 ≤ st) = false := by simp; omega
      obtain ⟨t, ht, hcv⟩ := conv_some W2 B n cap HC.out
      have HCV := Lib.hid ht
      have q2 := HT.out
      clear ht
      go_wp2
      go_ret
      exact ⟨t, rfl, by rw [HCV.out, HN.out]; exact Nat.le_refl _, by have := W2B.out; exact this⟩
    · obtain ⟨m, rfl⟩ := Int.eq_ofNat_of_zero_le c1
      have b1 : decide (0 ≤ (m : Int)) = true := by simp
      by_cases c2 : m < n
      · have b2 : decide (m < n) = true := by simp; exact c2
        obtain ⟨t, ht, hcv⟩ := conv_some W2 B m cap (fun j hj => HC.out j (Nat.lt_trans hj c2))
        have HCV := Lib.hid ht
        have q2 := HT.out
        have c3 : m ≤ cap := by have := CAP.out; omega
        have c4 : (cap < m) = False := by simp; omega
        clear ht
        go_wp2
        go_ret
        exact ⟨t, rfl, by rw [HCV.out, HN.out]; omega, by have := W2B.out; exact this⟩
      · have b2 : decide (m < n) = false := by simp; omega
        obtain ⟨t, ht, hcv⟩ := conv_some W2 B n cap HC.out
        have HCV := Lib.hid ht
        have q2 := HT.out
        clear ht
        go_wp2
        go_ret
        exact ⟨t, rfl, by rw [HCV.out, HN.out]; exact Nat.le_refl _, by have := W2B.out; exact this⟩
end Go.Proofs.YtihiaopilnjonaaGreatDoor
namespace Go.Proofs.YtihiaopilnjonaaGreatDoor
open Go.RowKit
set_option linter.unusedSimpArgs false
set_option linter.unusedVariables false
theorem wk_may1 : allMay (partSpecs fullR 300 0 2 3) = true := by kernel_rfl
theorem wk_lay1 : layP (partSpecs fullR 300 0 2 3) = ⟨#[132, 161, 107, 3, 161, 108, 2, 161, 114, 196, 32, 114, 114, 114, 114, 114, 114, 114, 114, 114, 114, 114, 114, 114, 114, 114, 114, 114, 114, 114, 114, 114, 114, 114, 114, 114, 114, 114, 114, 114, 114, 114, 114, 161, 119, 205, 1, 44]⟩ := by kernel_rfl
theorem wk_same1 : ((⟨#[132, 161, 107, 3, 161, 108, 2, 161, 114, 196, 32, 114, 114, 114, 114, 114, 114, 114, 114, 114, 114, 114, 114, 114, 114, 114, 114, 114, 114, 114, 114, 114, 114, 114, 114, 114, 114, 114, 114, 114, 114, 114, 114, 161, 119, 205, 1, 44]⟩ : ByteArray).toList == ((⟨#[132, 161, 107, 3, 161, 108, 2, 161, 114, 196, 32]⟩ : ByteArray) ++ fullR ++ ⟨#[161, 119, 205, 1, 44]⟩).toList) = true := by kernel_rfl
theorem wk_may2 : allMay (slotSpecs 0 false 0 [] []) = true := by kernel_rfl
theorem wk_lay2 : layP (slotSpecs 0 false 0 [] []) = ⟨#[128]⟩ := by kernel_rfl
theorem wk_may3 : allMay (slotSpecs 5 true 0 [] []) = true := by kernel_rfl
theorem wk_lay3 : layP (slotSpecs 5 true 0 [] []) = ⟨#[130, 161, 108, 5, 161, 115, 1]⟩ := by kernel_rfl
theorem wk_may4 : allMay (partSpecs (fullR.extract 1 fullR.size) 0 0 0 0) = false := by kernel_rfl
theorem wk_may5 : allMay (msgSpecs ⟨#[]⟩ ⟨#[]⟩ 0 0 0 0) = false := by kernel_rfl
theorem wk_rd1 : readR ⟨#[128]⟩ (slotGs ⟨#[128]⟩ 0) slot0 = .ok slot0 := by kernel_rfl
theorem wk_rd2 : readR ⟨#[129, 161, 108, 0]⟩ (slotGs ⟨#[129, 161, 108, 0]⟩ 0) slot0 = .error (5, 0) := by kernel_rfl
theorem wk_rd3 : readR ⟨#[130, 161, 115, 1, 161, 108, 5]⟩ (slotGs ⟨#[130, 161, 115, 1, 161, 108, 5]⟩ 0) slot0 = .error (5, 0) := by kernel_rfl
theorem wk_rd4 : readR ⟨#[129, 161, 115, 2]⟩ (slotGs ⟨#[129, 161, 115, 2]⟩ 0) slot0 = .error (5, 0) := by kernel_rfl
theorem wk_rd5 : readR ⟨#[128, 128]⟩ (slotGs ⟨#[128, 128]⟩ 0) slot0 = .error (5, 1) := by kernel_rfl
theorem wk_rd6 : readR ⟨#[128]⟩ (partGs ⟨#[128]⟩ 0) part0 = .error (5, 0) := by kernel_rfl
theorem wk_rd7 : readR ⟨#[]⟩ (partGs ⟨#[]⟩ 0) part0 = .error (4, 0) := by kernel_rfl
theorem wk_rd8 : readR ⟨#[129, 161, 119, 204, 5]⟩ (partGs ⟨#[129, 161, 119, 204, 5]⟩ 0) part0 = .error (5, 3) := by kernel_rfl
def bdS : Nat → ByteArray
  | 0 => ⟨#[129, 161, 108, 0]⟩
  | 1 => ⟨#[130, 161, 115, 1, 161, 108, 5]⟩
  | _ => ⟨#[129, 161, 115, 2]⟩
theorem bdS_rd (m : Nat) : readR (bdS m) (slotGs (bdS m) 0) slot0 = .error (5, 0) := by
  match m with
  | 0 => exact wk_rd2
  | 1 => exact wk_rd3
  | _ + 2 => exact wk_rd4
theorem bdS_size (m : Nat) : (bdS m).size ≤ 9223372036854775807 := by
  match m with
  | 0 => decide
  | 1 => decide
  | _ + 2 => exact (show (4 : Nat) ≤ 9223372036854775807 by decide)
theorem bdS_at (m : Nat) (h : m < 3) : (#[Value.string ⟨#[129, 161, 108, 0]⟩, .string ⟨#[130, 161, 115, 1, 161, 108, 5]⟩, .string ⟨#[129, 161, 115, 2]⟩] : Array Value)[m]? = some (.string (bdS m)) := by
  match m, h with
  | 0, _ => rfl
  | 1, _ => rfl
  | 2, _ => rfl
end Go.Proofs.YtihiaopilnjonaaGreatDoor
namespace Go.Proofs.YtihiaopilnjonaaGreatDoor
open Go.RowKit
set_option linter.unusedSimpArgs false
set_option linter.unusedVariables false
structure TE7 (B : Nat) (w : World) : Prop where
  p : PTab B w
  t : Tabs B w
  e : ErrType w
  s : B ≤ w.heap.size
  g : 0 < B
theorem TE7.below {B : Nat} {w w' : World} (h : TE7 B w) (hb : Below w.heap.size w w') : TE7 B w' := ⟨h.p.keep hb h.s, h.t.below hb, h.e.below hb, Nat.le_trans h.s hb.size, h.g⟩
theorem readSlot_no (B : Nat) (s : ByteArray) (k : Int) (a : Nat) (w : World) (h : TE7 B w) (hs : s.size ≤ 9223372036854775807) (hr : readR s (slotGs s 0) slot0 = .error (k, a)) :
    Calls Tryz.prog 35 #[.string s] w fun e w' => ∃ fb, e = .returned (.tuple #[zeroSlot, .iface 127 (.pointer (some ⟨fb, 0, none⟩))]) ∧ FltB w' fb k a ∧ Below w.heap.size w w' := by
  refine (reaSlot_any B s w h.t h.e h.s h.g hs).mono ?_
  rintro e w' ⟨hb, hh⟩
  rw [hr] at hh
  obtain ⟨fb, he, hf⟩ := hh
  exact ⟨fb, he, hf, hb⟩
theorem readPart_no (B : Nat) (s : ByteArray) (k : Int) (a : Nat) (w : World) (h : TE7 B w) (hs : s.size ≤ 9223372036854775807) (hr : readR s (partGs s 0) part0 = .error (k, a)) :
    Calls Tryz.prog 29 #[.string s] w fun e w' => ∃ fb, e = .returned (.tuple #[zeroPart, .iface 127 (.pointer (some ⟨fb, 0, none⟩))]) ∧ FltB w' fb k a ∧ Below w.heap.size w w' := by
  refine (reaPart_any B s w h.t h.e h.s h.g hs).mono ?_
  rintro e w' ⟨hb, hh⟩
  rw [hr] at hh
  obtain ⟨fb, he, hf⟩ := hh
  exact ⟨fb, he, hf, hb⟩
theorem laid_yes {fs : List FSpec} {s : ByteArray} (h1 : allMay fs = true) (h2 : layP fs = s) {w w' : World} {e : Ending} (h : LaidIs fs w e w') : e = .returned (.tuple #[.string s, .int .i64 0]) ∧ Below w.heap.size w w' := by
  obtain ⟨h3, h4⟩ := h; rw [h1, if_pos rfl, h2] at h3; exact ⟨h3, h4⟩
theorem laid_no {fs : List FSpec} (h1 : allMay fs = false) {w w' : World} {e : Ending} (h : LaidIs fs w e w') : e = .returned (.tuple #[.string ⟨#[]⟩, .int .i64 2]) ∧ Below w.heap.size w w' := by
  obtain ⟨h3, h4⟩ := h; rw [h1, if_neg (by decide)] at h3; exact ⟨h3, h4⟩
set_option maxRecDepth 100000 in
set_option maxHeartbeats 4000000 in
theorem works7_any (B : Nat) (w : World) (h : TE7 B w) : Calls Tryz.prog 32 #[] w fun e w' => e = .returned (.bool true) ∧ Below w.heap.size w w' := by
  have HE := Lib.hid h
  clear h
  have hfs : (1 : Int) ≤ (fullR.size : Int) := by decide
  have hfn : (1 ≤ fullR.size) = True := by decide
  go_enter Tryz.func32, Tryz.ntmps32
  go_wp2_with fail
  refine (full_any w).mono ?_
  rintro e w1 ⟨rfl, hb⟩
  have HB := Lib.hid hb
  have HE := Lib.hid (HE.out.below hb)
  clear hb
  go_wp2_with fail
  refine (wpart_any B fullR 300 0 2 3 w1 HE.out.p (by decide) ⟨by decide, by decide⟩ ⟨by decide, by decide⟩ ⟨by decide, by decide⟩ ⟨by decide, by decide⟩ (by rw [wk_lay1]; decide)).mono ?_
  rintro e w2 hh
  obtain ⟨S1, hS1⟩ : ∃ S, layP (partSpecs fullR 300 0 2 3) = S := ⟨_, rfl⟩
  have HS1 := Lib.hid (hS1.symm.trans wk_lay1)
  obtain ⟨rfl, hb⟩ := laid_yes wk_may1 hS1 hh
  clear hS1
  have tS : (S1.toList == ((⟨#[132, 161, 107, 3, 161, 108, 2, 161, 114, 196, 32]⟩ : ByteArray) ++ fullR ++ ⟨#[161, 119, 205, 1, 44]⟩).toList) = true := by rw [HS1.out]; exact wk_same1
  have HB := Lib.hid (bnext HB.out hb)
  have HE := Lib.hid (HE.out.below hb)
  clear hb hh
  go_wp2_with fail
  refine (wslot_any B 0 false 0 none none 0 0 [] [] w2 HE.out.p (fun i hi => absurd hi (by simp [len])) (fun i hi => absurd hi (by simp [len])) (by decide) (by decide) (by decide) (by decide) (by decide) (by decide) (by rw [wk_lay2]; decide)).mono ?_
  rintro e w3 hh
  obtain ⟨rfl, hb⟩ := laid_yes wk_may2 wk_lay2 hh
  have HB := Lib.hid (bnext HB.out hb)
  have HE := Lib.hid (HE.out.below hb)
  clear hb hh
  go_wp2_with fail
  refine (wslot_any B 5 true 0 none none 0 0 [] [] w3 HE.out.p (fun i hi => absurd hi (by simp [len])) (fun i hi => absurd hi (by simp [len])) (by decide) (by decide) (by decide) (by decide) (by decide) (by decide) (by rw [wk_lay3]; decide)).mono ?_
  rintro e w4 hh
  obtain ⟨rfl, hb⟩ := laid_yes wk_may3 wk_lay3 hh
  have HB := Lib.hid (bnext HB.out hb)
  have HE := Lib.hid (HE.out.below hb)
  clear hb hh
  go_wp2_with fail
  refine (wpart_any B (fullR.extract 1 fullR.size) 0 0 0 0 w4 HE.out.p (by decide) ⟨by decide, by decide⟩ ⟨by decide, by decide⟩ ⟨by decide, by decide⟩ ⟨by decide, by decide⟩ (by decide)).mono ?_
  rintro e w5 hh
  obtain ⟨rfl, hb⟩ := laid_no wk_may4 hh
  have HB := Lib.hid (bnext HB.out hb)
  have HE := Lib.hid (HE.out.below hb)
  clear hb hh
  go_wp2_with fail
  refine (wmsg2_any B ⟨#[]⟩ ⟨#[]⟩ 0 0 0 0 w5 HE.out.p (by decide) (by decide) ⟨by decide, by decide⟩ ⟨by decide, by decide⟩ ⟨by decide, by decide⟩ ⟨by decide, by decide⟩ (by decide)).mono ?_
  rintro e w6 hh
  obtain ⟨rfl, hb⟩ := laid_no wk_may5 hh
  have HB := Lib.hid (bnext HB.out hb)
  have HE := Lib.hid (HE.out.below hb)
  clear hb hh
  go_wp2_with fail
  refine (reaSlot_any B ⟨#[128]⟩ w6 HE.out.t HE.out.e HE.out.s HE.out.g (by decide)).mono ?_
  rintro e w7 ⟨hb, hh⟩
  rw [wk_rd1] at hh
  obtain ⟨-, a3, c3, a4, c4, -, rfl⟩ := hh
  have HB := Lib.hid (bnext HB.out hb)
  have HE := Lib.hid (HE.out.below hb)
  clear hb tS
  go_wp2_with fail
  obtain ⟨sb, hsb⟩ : ∃ sb, w7.heap.size + 1 = sb := ⟨_, rfl⟩
  obtain ⟨W, hW⟩ : ∃ W, (w7.alloc (.cells #[.int .u64 0, .bool false, .int .u64 (slot0 2).n, .slice a3 (len (slot0 3).l) c3, .slice a4 (len (slot0 4).l) c4] 44)).alloc (.cells #[.string ⟨#[129, 161, 108, 0]⟩, .string ⟨#[130, 161, 115, 1, 161, 108, 5]⟩, .string ⟨#[129, 161, 115, 2]⟩] 9) = W := ⟨_, rfl⟩
  have HB : Hid (Below w.heap.size w W) := Lib.hid (by rw [← hW]; exact balloc (balloc HB.out _) _)
  have HE : Hid (TE7 B W) := Lib.hid (by rw [← hW]; exact HE.out.below (balloc (balloc (Below.refl _ _) _) _))
  have HS : Hid (W.heap[sb]? = some (.cells #[.string ⟨#[129, 161, 108, 0]⟩, .string ⟨#[130, 161, 115, 1, 161, 108, 5]⟩, .string ⟨#[129, 161, 115, 2]⟩] 9 (0, 0))) := Lib.hid (by rw [← hW, ← hsb]; exact alloc_new_at _ (by simp))
  rw [hW, hsb]
  clear hW hsb
  go_loopg [15] 3 (fun g i wr => ∃ m : Nat, g + m = 3 ∧ i = .int .i64 m ∧ Hid (Below W.heap.size W wr))
  case atStart => exact ⟨0, rfl, rfl, Below.refl _ _⟩
  case round =>
    obtain ⟨m, hg, rfl, HW⟩ := hrel
    by_cases hlt : m < 3
    · have c0 : wr.cell? ⟨sb, m, none⟩ = some (.string (bdS m)) := (block_cell ((HW.out.block sb (lt_of_block HS.out)).trans HS.out) m).trans (bdS_at m hlt)
      have i1 : decide (m < 3) = true := by simp; exact hlt
      have i2 : (m : Int) < 3 := by omega
      have HEr := Lib.hid (HE.out.below HW.out)
      have HR := Lib.hid (fun w' (h : TE7 B w') => readSlot_no B (bdS m) 5 0 w' h (bdS_size m) (bdS_rd m))
      generalize bdS m = v at c0 HR
      go_wp2_with fail
      refine (HR.out _ HEr.out).mono ?_
      rintro e w8 ⟨fb, rfl, hf, hb⟩
      have HF := Lib.hid hf
      have HB8 := Lib.hid hb
      have HE8 := Lib.hid (HEr.out.below hb)
      clear hb c0 hf
      go_wp2_with fail
      have HE9 := Lib.hid (HE8.out.below (balloc (Below.refl _ _) (.cells #[.int .u64 0, .bool false, .int .u64 0, .slice none 0 0, .slice none 0 0] 44)))
      have HF9 := Lib.hid (HF.out.below (balloc (Below.refl _ _) (.cells #[.int .u64 0, .bool false, .int .u64 0, .slice none 0 0, .slice none 0 0] 44)))
      have HB9 := Lib.hid (balloc (bnext HW.out HB8.out) (.cells #[.int .u64 0, .bool false, .int .u64 0, .slice none 0 0, .slice none 0 0] 44))
      refine (told_fault fb 5 0 _ HE9.out.e HF9.out (by decide) (Nat.lt_of_lt_of_le HE9.out.g HE9.out.s)).mono ?_
      rintro e w9 ⟨rfl, hb⟩
      have HB9 := Lib.hid (bnext HB9.out hb)
      clear hb
      go_wp2
      go_roundg (2 - m)
      case rel => exact ⟨m + 1, by omega, by go_num, HB9⟩
      case measure => omega
    · obtain rfl : m = 3 := by omega
      have HB := Lib.hid (bnext HB.out HW.out)
      have HE := Lib.hid (HE.out.below HW.out)
      clear HW
      go_wp2_with fail
      refine (readSlot_no B ⟨#[128, 128]⟩ 5 1 _ HE.out (by decide) wk_rd5).mono ?_
      rintro e x1 ⟨f1, rfl, hf, hb⟩
      have HB := Lib.hid (balloc (bnext HB.out hb) (.cells #[.int .u64 0, .bool false, .int .u64 0, .slice none 0 0, .slice none 0 0] 44))
      have HE := Lib.hid (HE.out.below (balloc hb (.cells #[.int .u64 0, .bool false, .int .u64 0, .slice none 0 0, .slice none 0 0] 44)))
      have HF1 := Lib.hid (hf.below (balloc (Below.refl _ _) (.cells #[.int .u64 0, .bool false, .int .u64 0, .slice none 0 0, .slice none 0 0] 44)))
      clear hb hf
      go_wp2_with fail
      refine (readPart_no B ⟨#[128]⟩ 5 0 _ HE.out (by decide) wk_rd6).mono ?_
      rintro e x2 ⟨f2, rfl, hf, hb⟩
      have HB := Lib.hid (balloc (bnext HB.out hb) (.cells #[.string ⟨#[]⟩, .int .u64 0, .int .u64 0, .int .u64 0, .int .u64 0] 46))
      have hb' := balloc hb (.cells #[.string ⟨#[]⟩, .int .u64 0, .int .u64 0, .int .u64 0, .int .u64 0] 46)
      have HE := Lib.hid (HE.out.below hb')
      have HF1 := Lib.hid (HF1.out.below hb')
      have HF2 := Lib.hid (hf.below (balloc (Below.refl _ _) (.cells #[.string ⟨#[]⟩, .int .u64 0, .int .u64 0, .int .u64 0, .int .u64 0] 46)))
      clear hb hf hb'
      go_wp2_with fail
      refine (readPart_no B ⟨#[]⟩ 4 0 _ HE.out (by decide) wk_rd7).mono ?_
      rintro e x3 ⟨f3, rfl, hf, hb⟩
      have HB := Lib.hid (balloc (bnext HB.out hb) (.cells #[.string ⟨#[]⟩, .int .u64 0, .int .u64 0, .int .u64 0, .int .u64 0] 46))
      have hb' := balloc hb (.cells #[.string ⟨#[]⟩, .int .u64 0, .int .u64 0, .int .u64 0, .int .u64 0] 46)
      have HE := Lib.hid (HE.out.below hb')
      have HF1 := Lib.hid (HF1.out.below hb')
      have HF2 := Lib.hid (HF2.out.below hb')
      have HF3 := Lib.hid (hf.below (balloc (Below.refl _ _) (.cells #[.string ⟨#[]⟩, .int .u64 0, .int .u64 0, .int .u64 0, .int .u64 0] 46)))
      clear hb hf hb'
      go_wp2_with fail
      refine (readPart_no B ⟨#[129, 161, 119, 204, 5]⟩ 5 3 _ HE.out (by decide) wk_rd8).mono ?_
      rintro e x4 ⟨f4, rfl, hf, hb⟩
      have HB := Lib.hid (balloc (bnext HB.out hb) (.cells #[.string ⟨#[]⟩, .int .u64 0, .int .u64 0, .int .u64 0, .int .u64 0] 46))
      have hb' := balloc hb (.cells #[.string ⟨#[]⟩, .int .u64 0, .int .u64 0, .int .u64 0, .int .u64 0] 46)
      have HE := Lib.hid (HE.out.below hb')
      have HF1 := Lib.hid (HF1.out.below hb')
      have HF2 := Lib.hid (HF2.out.below hb')
      have HF3 := Lib.hid (HF3.out.below hb')
      have HF4 := Lib.hid (hf.below (balloc (Below.refl _ _) (.cells #[.string ⟨#[]⟩, .int .u64 0, .int .u64 0, .int .u64 0, .int .u64 0] 46)))
      clear hb hf hb'
      go_wp2_with fail
      refine (told_fault f1 5 1 _ HE.out.e HF1.out (by decide) (Nat.lt_of_lt_of_le HE.out.g HE.out.s)).mono ?_
      rintro e y1 ⟨rfl, hb⟩
      have HB := Lib.hid (bnext HB.out hb)
      have HE := Lib.hid (HE.out.below hb)
      have HF2 := Lib.hid (HF2.out.below hb)
      have HF3 := Lib.hid (HF3.out.below hb)
      have HF4 := Lib.hid (HF4.out.below hb)
      clear hb
      go_wp2_with fail
      refine (told_fault f2 5 0 _ HE.out.e HF2.out (by decide) (Nat.lt_of_lt_of_le HE.out.g HE.out.s)).mono ?_
      rintro e y2 ⟨rfl, hb⟩
      have HB := Lib.hid (bnext HB.out hb)
      have HE := Lib.hid (HE.out.below hb)
      have HF3 := Lib.hid (HF3.out.below hb)
      have HF4 := Lib.hid (HF4.out.below hb)
      clear hb
      go_wp2_with fail
      refine (told_fault f3 4 0 _ HE.out.e HF3.out (by decide) (Nat.lt_of_lt_of_le HE.out.g HE.out.s)).mono ?_
      rintro e y3 ⟨rfl, hb⟩
      have HB := Lib.hid (bnext HB.out hb)
      have HE := Lib.hid (HE.out.below hb)
      have HF4 := Lib.hid (HF4.out.below hb)
      clear hb
      go_wp2_with fail
      refine (told_fault f4 5 3 _ HE.out.e HF4.out (by decide) (Nat.lt_of_lt_of_le HE.out.g HE.out.s)).mono ?_
      rintro e y4 ⟨rfl, hb⟩
      have HB := Lib.hid (bnext HB.out hb)
      clear hb
      go_wp2
      go_ret
      exact ⟨rfl, HB.out⟩
end Go.Proofs.YtihiaopilnjonaaGreatDoor
namespace Go.Proofs.YtihiaopilnjonaaGreatDoor
set_option linter.unusedSimpArgs false
set_option linter.unusedVariables false
open Go.RowKit
def refRowOf (sort : Nat) (c : Int) : Int × Int × Int := match (rowsOf sort).find? (fun r => decide (r.lo ≤ c) && decide (c ≤ r.hi)) with
  | none => (-1, 0, 0)
  | some r => (r.size, if r.size = 0 then c - r.lo else 0, r.least)
set_option maxRecDepth 100000 in
set_option maxHeartbeats 2000000 in
theorem refRow_0 (c : Int) (w : World) (c0 : 0 ≤ c) (c1 : c ≤ 255) :
    Calls Tryz.prog 246 #[.int .i64 0, .int .i64 c] w fun e w' => e = .returned (.tuple #[.int .i64 (refRowOf 0 c).1, .int .u64 (refRowOf 0 c).2.1, .int .u64 (refRowOf 0 c).2.2]) ∧ w' = w := by
  by_cases h0 : 0 ≤ c ∧ c ≤ 127
  · obtain ⟨l0, u0⟩ := h0
    have E : Hid (refRowOf 0 c = (0, c, 0)) := Lib.hid (by unfold refRowOf; rw [show rowsOf 0 = numsL from rfl]; unfold numsL; rw [List.find?_cons_of_pos (by simp; omega)]; simp)
    have i1 : IntKind.u64.wrap c = c := IntWalk.u64_in _ (by omega)
    go_enter Tryz.func246, Tryz.ntmps246
    go_wp2
    all_goals
      go_ret3
      rw [E.out]
      exact ⟨rfl, rfl⟩
  by_cases h1 : c = 204
  · subst h1
    have E : Hid (refRowOf 0 204 = (1, 0, 128)) := Lib.hid (by decide)
    go_enter Tryz.func246, Tryz.ntmps246
    go_wp2
    all_goals
      go_ret3
      rw [E.out]
      exact ⟨rfl, rfl⟩
  have q1 : (c == 204) = false := by simpa using h1
  by_cases h2 : c = 205
  · subst h2
    have E : Hid (refRowOf 0 205 = (2, 0, 256)) := Lib.hid (by decide)
    go_enter Tryz.func246, Tryz.ntmps246
    go_wp2
    all_goals
      go_ret3
      rw [E.out]
      exact ⟨rfl, rfl⟩
  have q2 : (c == 205) = false := by simpa using h2
  by_cases h3 : c = 206
  · subst h3
    have E : Hid (refRowOf 0 206 = (4, 0, 65536)) := Lib.hid (by decide)
    go_enter Tryz.func246, Tryz.ntmps246
    go_wp2
    all_goals
      go_ret3
      rw [E.out]
      exact ⟨rfl, rfl⟩
  have q3 : (c == 206) = false := by simpa using h3
  by_cases h4 : c = 207
  · subst h4
    have E : Hid (refRowOf 0 207 = (8, 0, 4294967296)) := Lib.hid (by decide)
    go_enter Tryz.func246, Tryz.ntmps246
    go_wp2
    all_goals
      go_ret3
      rw [E.out]
      exact ⟨rfl, rfl⟩
  have q4 : (c == 207) = false := by simpa using h4
  have E : Hid (refRowOf 0 c = (-1, 0, 0)) := Lib.hid (by unfold refRowOf; rw [show rowsOf 0 = numsL from rfl]; unfold numsL; rw [List.find?_cons_of_neg (by simp; omega), List.find?_cons_of_neg (by simp; omega), List.find?_cons_of_neg (by simp; omega), List.find?_cons_of_neg (by simp; omega), List.find?_cons_of_neg (by simp; omega), List.find?_nil])
  go_enter Tryz.func246, Tryz.ntmps246
  go_wp2
  all_goals
    go_ret3
    rw [E.out]
    exact ⟨rfl, rfl⟩
set_option maxRecDepth 100000 in
set_option maxHeartbeats 2000000 in
theorem refRow_1 (c : Int) (w : World) (c0 : 0 ≤ c) (c1 : c ≤ 255) :
    Calls Tryz.prog 246 #[.int .i64 1, .int .i64 c] w fun e w' => e = .returned (.tuple #[.int .i64 (refRowOf 1 c).1, .int .u64 (refRowOf 1 c).2.1, .int .u64 (refRowOf 1 c).2.2]) ∧ w' = w := by
  by_cases h0 : c = 196
  · subst h0
    have E : Hid (refRowOf 1 196 = (1, 0, 0)) := Lib.hid (by decide)
    go_enter Tryz.func246, Tryz.ntmps246
    go_wp2
    all_goals
      go_ret3
      rw [E.out]
      exact ⟨rfl, rfl⟩
  have q0 : (c == 196) = false := by simpa using h0
  by_cases h1 : c = 197
  · subst h1
    have E : Hid (refRowOf 1 197 = (2, 0, 256)) := Lib.hid (by decide)
    go_enter Tryz.func246, Tryz.ntmps246
    go_wp2
    all_goals
      go_ret3
      rw [E.out]
      exact ⟨rfl, rfl⟩
  have q1 : (c == 197) = false := by simpa using h1
  have E : Hid (refRowOf 1 c = (-1, 0, 0)) := Lib.hid (by unfold refRowOf; rw [show rowsOf 1 = binsL from rfl]; unfold binsL; rw [List.find?_cons_of_neg (by simp; omega), List.find?_cons_of_neg (by simp; omega), List.find?_nil])
  go_enter Tryz.func246, Tryz.ntmps246
  go_wp2
  all_goals
    go_ret3
    rw [E.out]
    exact ⟨rfl, rfl⟩
set_option maxRecDepth 100000 in
set_option maxHeartbeats 2000000 in
theorem refRow_2 (c : Int) (w : World) (c0 : 0 ≤ c) (c1 : c ≤ 255) :
    Calls Tryz.prog 246 #[.int .i64 2, .int .i64 c] w fun e w' => e = .returned (.tuple #[.int .i64 (refRowOf 2 c).1, .int .u64 (refRowOf 2 c).2.1, .int .u64 (refRowOf 2 c).2.2]) ∧ w' = w := by
  by_cases h0 : 160 ≤ c ∧ c ≤ 191
  · obtain ⟨l0, u0⟩ := h0
    have E : Hid (refRowOf 2 c = (0, c - 160, 0)) := Lib.hid (by unfold refRowOf; rw [show rowsOf 2 = strsL from rfl]; unfold strsL; rw [List.find?_cons_of_pos (by simp; omega)]; simp)
    have i1 : IntKind.u64.wrap (c - 160) = c - 160 := IntWalk.u64_in _ (by omega)
    have i2 : IntKind.i64.wrap (c - 160) = c - 160 := IntWalk.i64_in _ (by omega)
    go_enter Tryz.func246, Tryz.ntmps246
    go_wp2
    all_goals
      go_ret3
      rw [E.out]
      exact ⟨rfl, rfl⟩
  by_cases h1 : c = 217
  · subst h1
    have E : Hid (refRowOf 2 217 = (1, 0, 32)) := Lib.hid (by decide)
    go_enter Tryz.func246, Tryz.ntmps246
    go_wp2
    all_goals
      go_ret3
      rw [E.out]
      exact ⟨rfl, rfl⟩
  have q1 : (c == 217) = false := by simpa using h1
  by_cases h2 : c = 218
  · subst h2
    have E : Hid (refRowOf 2 218 = (2, 0, 256)) := Lib.hid (by decide)
    go_enter Tryz.func246, Tryz.ntmps246
    go_wp2
    all_goals
      go_ret3
      rw [E.out]
      exact ⟨rfl, rfl⟩
  have q2 : (c == 218) = false := by simpa using h2
  have E : Hid (refRowOf 2 c = (-1, 0, 0)) := Lib.hid (by unfold refRowOf; rw [show rowsOf 2 = strsL from rfl]; unfold strsL; rw [List.find?_cons_of_neg (by simp; omega), List.find?_cons_of_neg (by simp; omega), List.find?_cons_of_neg (by simp; omega), List.find?_nil])
  go_enter Tryz.func246, Tryz.ntmps246
  go_wp2
  all_goals
    go_ret3
    rw [E.out]
    exact ⟨rfl, rfl⟩
set_option maxRecDepth 100000 in
set_option maxHeartbeats 2000000 in
theorem refRow_3 (c : Int) (w : World) (c0 : 0 ≤ c) (c1 : c ≤ 255) :
    Calls Tryz.prog 246 #[.int .i64 3, .int .i64 c] w fun e w' => e = .returned (.tuple #[.int .i64 (refRowOf 3 c).1, .int .u64 (refRowOf 3 c).2.1, .int .u64 (refRowOf 3 c).2.2]) ∧ w' = w := by
  by_cases h0 : 144 ≤ c ∧ c ≤ 159
  · obtain ⟨l0, u0⟩ := h0
    have E : Hid (refRowOf 3 c = (0, c - 144, 0)) := Lib.hid (by unfold refRowOf; rw [show rowsOf 3 = listsL from rfl]; unfold listsL; rw [List.find?_cons_of_pos (by simp; omega)]; simp)
    have i1 : IntKind.u64.wrap (c - 144) = c - 144 := IntWalk.u64_in _ (by omega)
    have i2 : IntKind.i64.wrap (c - 144) = c - 144 := IntWalk.i64_in _ (by omega)
    go_enter Tryz.func246, Tryz.ntmps246
    go_wp2
    all_goals
      go_ret3
      rw [E.out]
      exact ⟨rfl, rfl⟩
  by_cases h1 : c = 220
  · subst h1
    have E : Hid (refRowOf 3 220 = (2, 0, 16)) := Lib.hid (by decide)
    go_enter Tryz.func246, Tryz.ntmps246
    go_wp2
    all_goals
      go_ret3
      rw [E.out]
      exact ⟨rfl, rfl⟩
  have q1 : (c == 220) = false := by simpa using h1
  have E : Hid (refRowOf 3 c = (-1, 0, 0)) := Lib.hid (by unfold refRowOf; rw [show rowsOf 3 = listsL from rfl]; unfold listsL; rw [List.find?_cons_of_neg (by simp; omega), List.find?_cons_of_neg (by simp; omega), List.find?_nil])
  go_enter Tryz.func246, Tryz.ntmps246
  go_wp2
  all_goals
    go_ret3
    rw [E.out]
    exact ⟨rfl, rfl⟩
set_option maxRecDepth 100000 in
set_option maxHeartbeats 2000000 in
theorem refRow_4 (c : Int) (w : World) (c0 : 0 ≤ c) (c1 : c ≤ 255) :
    Calls Tryz.prog 246 #[.int .i64 4, .int .i64 c] w fun e w' => e = .returned (.tuple #[.int .i64 (refRowOf 4 c).1, .int .u64 (refRowOf 4 c).2.1, .int .u64 (refRowOf 4 c).2.2]) ∧ w' = w := by
  by_cases h0 : 128 ≤ c ∧ c ≤ 143
  · obtain ⟨l0, u0⟩ := h0
    have E : Hid (refRowOf 4 c = (0, c - 128, 0)) := Lib.hid (by unfold refRowOf; rw [show rowsOf 4 = pairsL from rfl]; unfold pairsL; rw [List.find?_cons_of_pos (by simp; omega)]; simp)
    have i1 : IntKind.u64.wrap (c - 128) = c - 128 := IntWalk.u64_in _ (by omega)
    have i2 : IntKind.i64.wrap (c - 128) = c - 128 := IntWalk.i64_in _ (by omega)
    go_enter Tryz.func246, Tryz.ntmps246
    go_wp2
    all_goals
      go_ret3
      rw [E.out]
      exact ⟨rfl, rfl⟩
  by_cases h1 : c = 222
  · subst h1
    have E : Hid (refRowOf 4 222 = (2, 0, 16)) := Lib.hid (by decide)
    go_enter Tryz.func246, Tryz.ntmps246
    go_wp2
    all_goals
      go_ret3
      rw [E.out]
      exact ⟨rfl, rfl⟩
  have q1 : (c == 222) = false := by simpa using h1
  have E : Hid (refRowOf 4 c = (-1, 0, 0)) := Lib.hid (by unfold refRowOf; rw [show rowsOf 4 = pairsL from rfl]; unfold pairsL; rw [List.find?_cons_of_neg (by simp; omega), List.find?_cons_of_neg (by simp; omega), List.find?_nil])
  go_enter Tryz.func246, Tryz.ntmps246
  go_wp2
  all_goals
    go_ret3
    rw [E.out]
    exact ⟨rfl, rfl⟩
theorem refRow_any (sort : Nat) (h5 : sort < 5) (c : Int) (w : World) (c0 : 0 ≤ c) (c1 : c ≤ 255) :
    Calls Tryz.prog 246 #[.int .i64 sort, .int .i64 c] w fun e w' => e = .returned (.tuple #[.int .i64 (refRowOf sort c).1, .int .u64 (refRowOf sort c).2.1, .int .u64 (refRowOf sort c).2.2]) ∧ w' = w := by
  rcases (by omega : sort = 0 ∨ sort = 1 ∨ sort = 2 ∨ sort = 3 ∨ sort = 4) with rfl | rfl | rfl | rfl | rfl
  · exact refRow_0 c w c0 c1
  · exact refRow_1 c w c0 c1
  · exact refRow_2 c w c0 c1
  · exact refRow_3 c w c0 c1
  · exact refRow_4 c w c0 c1
end Go.Proofs.YtihiaopilnjonaaGreatDoor
namespace Go.Proofs.YtihiaopilnjonaaGreatDoor
set_option linter.unusedSimpArgs false
set_option linter.unusedVariables false
open Go.RowKit
def RefB (w : World) (b : Nat) (s : ByteArray) (a : Nat) (most : Int) : Prop := w.heap[b]? = some (.cells #[.string s, .int .i64 a, .int .i64 most] 210 (0, 0))
def RTakeIs (res : Except Int (Int × ByteArray × Nat)) (b : Nat) (s : ByteArray) (most : Int) (a : Nat) (w : World) (e : Ending) (w' : World) : Prop :=
  ExtB (some b) w w' ∧ match res with
    | .ok x => e = .returned (.tuple #[.int .u64 x.1, .string x.2.1, .int .i64 0]) ∧ RefB w' b s x.2.2 most
    | .error k => e = .returned (.tuple #[.int .u64 0, .string ⟨#[]⟩, .int .i64 k]) ∧ RefB w' b s a most
theorem rowsOf_ok (sort : Nat) : ∀ i, (unth (rowsOf sort) i).Ok := by
  unfold rowsOf
  split
  · exact binsL_ok
  · exact strsL_ok
  · exact listsL_ok
  · exact pairsL_ok
  · exact numsL_ok
theorem ref_cases (sort : Nat) (t : ByteArray) (h : 0 < t.size) :
    (refRowOf sort (byte t 0) = (-1, 0, 0) ∧ headOf t (rowsOf sort) = .error 5) ∨
    (∃ r : URow, ∃ q : Nat, r.Ok ∧ r.lo ≤ byte t 0 ∧ r.size = q ∧ q ≤ 8 ∧ refRowOf sort (byte t 0) = ((q : Int), numAt t r 0, r.least) ∧
      headOf t (rowsOf sort) = if (t.size : Int) < 1 + q then .error 4 else if numAt t r q < r.least then .error 5 else .ok (numAt t r q, t.extract (1 + q) t.size)) := by
  unfold refRowOf
  cases hf : (rowsOf sort).find? (fun r => decide (r.lo ≤ byte t 0) && decide (byte t 0 ≤ r.hi)) with
  | none =>
    refine .inl ⟨rfl, ?_⟩
    unfold headOf
    rw [if_neg (by omega), hf]
  | some r =>
    have hp := List.find?_some hf
    obtain ⟨i, hi, he⟩ := List.getElem_of_mem (List.mem_of_find?_eq_some hf)
    have ok := rowsOf_ok sort i
    rw [unth_eq _ i hi, he] at ok
    simp only [Bool.and_eq_true, decide_eq_true_eq] at hp
    have k1 := ok.sz0
    have k2 := ok.sz1
    obtain ⟨q, hq⟩ : ∃ q : Nat, r.size = q := ⟨r.size.toNat, by omega⟩
    refine .inr ⟨r, q, ok, hp.1, hq, by omega, ?_, ?_⟩
    · show (r.size, _, _) = _
      rw [hq]
      unfold numAt
      by_cases h0 : r.size = 0
      · rw [if_pos (by omega), if_pos h0]
      · rw [if_neg (by omega), if_neg h0]; rfl
    · rw [head_row h hf]
      unfold numAt
      rw [hq]
      simp only [Int.toNat_natCast]
theorem ext_ext (t : ByteArray) (i n : Nat) (h : i + n ≤ t.size) : (t.extract i t.size).extract 0 n = t.extract i (i + n) := by
  apply ByteArray.ext
  apply Array.ext'
  rw [Lib.extract_data, Lib.extract_data, Lib.extract_data, List.drop_zero, List.take_take]
  congr 1
  omega
theorem ext_set1 {w w1 : World} {b : Nat} (h : ExtB (some b) w w1) (v : Value) : ExtB (some b) w (w1.setCell ⟨b, 1, none⟩ v) :=
  ⟨h.os, h.tape, h.output, by simpa using h.size, fun i hi hn => by rw [Below.heap_setCell _ _ _ _ (by show i ≠ b; exact fun e => hn (by rw [e]))]; exact h.block i hi hn⟩
theorem byte_at (t : ByteArray) (j : Nat) (h : j + 1 < t.size) : (t[j + 1].toNat : Int) = byte t (1 + j) := by
  unfold byte
  rw [Nat.add_comm 1 j, List.getD_eq_getElem?_getD, List.getElem?_eq_getElem (by simpa using h)]; rfl
set_option maxRecDepth 100000 in
set_option maxHeartbeats 2000000 in
theorem refTake_any (w : World) (b : Nat) (s : ByteArray) (a : Nat) (most : Int) (sort : Nat) (h : RefB w b s a most) (ha : a ≤ s.size) (hs : s.size ≤ 140737488355328) (hm0 : 0 ≤ most) (hm1 : most ≤ 9223372036854775807) (h5 : sort < 5) :
    Calls Tryz.prog 209 #[.pointer (some ⟨b, 0, none⟩), .int .i64 sort] w (RTakeIs (takeOf sort s a most) b s most a w) := by
  have H := Lib.hid h
  have c0 : w.cell? ⟨b, 0, none⟩ = some (.string s) := block_cell h 0
  have c1 : w.cell? ⟨b, 1, none⟩ = some (.int .i64 a) := block_cell h 1
  have i1 : (a : Int) ≤ s.size := by omega
  have i2 : 0 ≤ (a : Int) := by omega
  have i3 : a ≤ s.size := ha
  clear h
  go_enter Tryz.func209, Tryz.ntmps209
  go_wp2
  refine wp_region_all 1000 (none) (phis [fun u _ => u = (.pointer (some ⟨b, 0, none⟩)), fun u _ => u = (.pointer (some ⟨b, 0, none⟩)), fun u _ => u = (.pointer (some ⟨b, 0, none⟩)), fun u _ => u = (.string s), fun u _ => u = (.pointer (some ⟨b, 0, none⟩)), fun u _ => u = (.pointer (some ⟨b, 0, none⟩)), fun u _ => u = (.pointer (some ⟨b, 1, none⟩)), fun u _ => u = (.int .i64 a), fun u _ => u = (.string (s.extract a s.size)), fun u _ => u = (.string (s.extract a s.size))]) rfl (by kernel_rfl) (mono_of ⟨mono_eq, mono_eq, mono_eq, mono_eq, mono_eq, mono_eq, mono_eq, mono_eq, mono_eq, mono_eq, trivial⟩) (steps_of 10 ⟨?s0, ?s1, ?s2, ?s3, ?s4, ?s5, ?s6, ?s7, ?s8, ?s9, trivial⟩) ?_
  case s0 =>
    refine step_val (v := (.pointer (some ⟨b, 0, none⟩))) (fun av wv hE hS hO hD => ?_) (fun _ => rfl)
    have h0 : av.eval (.tmp 0) = (.pointer (some ⟨b, 0, none⟩)) := hO.2.2 0 rfl
    have f0 := (ev_form av 0).symm.trans h0
    refine ⟨rfl, ?_⟩
    simp [go_sem, f0, i1, i2, i3]
  case s1 =>
    refine step_val (v := (.pointer (some ⟨b, 0, none⟩))) (fun av wv hE hS hO hD => ?_) (fun _ => rfl)
    have d13 : av.eval (.tmp 13) = (.pointer (some ⟨b, 0, none⟩)) := hD.1 rfl _ rfl
    have f13 := (ev_form av 13).symm.trans d13
    refine ⟨rfl, ?_⟩
    simp [go_sem, f13, i1, i2, i3]
  case s2 =>
    refine step_val (v := (.pointer (some ⟨b, 0, none⟩))) (fun av wv hE hS hO hD => ?_) (fun _ => rfl)
    have d14 : av.eval (.tmp 14) = (.pointer (some ⟨b, 0, none⟩)) := hD.1 rfl _ rfl
    have f14 := (ev_form av 14).symm.trans d14
    refine ⟨rfl, ?_⟩
    simp [go_sem, f14, i1, i2, i3]
  case s3 =>
    refine step_val (v := (.string s)) (fun av wv hE hS hO hD => ?_) (fun _ => rfl)
    have d15 : av.eval (.tmp 15) = (.pointer (some ⟨b, 0, none⟩)) := hD.1 rfl _ rfl
    have f15 := (ev_form av 15).symm.trans d15
    have c0 := extB_cell hE (by simp) c0
    have c1 := extB_cell hE (by simp) c1
    refine ⟨rfl, ?_⟩
    simp [go_sem, f15, c0, c1, i1, i2, i3]
  case s4 =>
    refine step_val (v := (.pointer (some ⟨b, 0, none⟩))) (fun av wv hE hS hO hD => ?_) (fun _ => rfl)
    have h0 : av.eval (.tmp 0) = (.pointer (some ⟨b, 0, none⟩)) := hO.2.2 0 rfl
    have f0 := (ev_form av 0).symm.trans h0
    refine ⟨rfl, ?_⟩
    simp [go_sem, f0, i1, i2, i3]
  case s5 =>
    refine step_val (v := (.pointer (some ⟨b, 0, none⟩))) (fun av wv hE hS hO hD => ?_) (fun _ => rfl)
    have d17 : av.eval (.tmp 17) = (.pointer (some ⟨b, 0, none⟩)) := hD.1 rfl _ rfl
    have f17 := (ev_form av 17).symm.trans d17
    refine ⟨rfl, ?_⟩
    simp [go_sem, f17, i1, i2, i3]
  case s6 =>
    refine step_val (v := (.pointer (some ⟨b, 1, none⟩))) (fun av wv hE hS hO hD => ?_) (fun _ => rfl)
    have d18 : av.eval (.tmp 18) = (.pointer (some ⟨b, 0, none⟩)) := hD.1 rfl _ rfl
    have f18 := (ev_form av 18).symm.trans d18
    refine ⟨rfl, ?_⟩
    simp [go_sem, f18, i1, i2, i3]
  case s7 =>
    refine step_val (v := (.int .i64 a)) (fun av wv hE hS hO hD => ?_) (fun _ => rfl)
    have d19 : av.eval (.tmp 19) = (.pointer (some ⟨b, 1, none⟩)) := hD.1 rfl _ rfl
    have f19 := (ev_form av 19).symm.trans d19
    have c0 := extB_cell hE (by simp) c0
    have c1 := extB_cell hE (by simp) c1
    refine ⟨rfl, ?_⟩
    simp [go_sem, f19, c0, c1, i1, i2, i3]
  case s8 =>
    refine step_val (v := (.string (s.extract a s.size))) (fun av wv hE hS hO hD => ?_) (fun _ => rfl)
    have d16 : av.eval (.tmp 16) = (.string s) := hD.1 rfl _ rfl
    have f16 := (ev_form av 16).symm.trans d16
    have d20 : av.eval (.tmp 20) = (.int .i64 a) := hD.2.1 rfl _ rfl
    have f20 := (ev_form av 20).symm.trans d20
    refine ⟨rfl, ?_⟩
    simp [go_sem, f16, f20, i1, i2, i3]
  case s9 =>
    refine step_val (v := (.string (s.extract a s.size))) (fun av wv hE hS hO hD => ?_) (fun _ => rfl)
    have d21 : av.eval (.tmp 21) = (.string (s.extract a s.size)) := hD.1 rfl _ rfl
    have f21 := (ev_form av 21).symm.trans d21
    refine ⟨rfl, ?_⟩
    simp [go_sem, f21, i1, i2, i3]
  intro a' w' hE hO hall
  have hA := act_of_outer (ds := [13, 14, 15, 16, 17, 18, 19, 20, 21, 7]) rfl hO (by kernel_rfl)
  have e13 : (fun u _ => u = (.pointer (some ⟨b, 0, none⟩))) (a'.eval (.tmp 13)) w' := hall.1 _ rfl
  have e14 : (fun u _ => u = (.pointer (some ⟨b, 0, none⟩))) (a'.eval (.tmp 14)) w' := hall.2.1 _ rfl
  have e15 : (fun u _ => u = (.pointer (some ⟨b, 0, none⟩))) (a'.eval (.tmp 15)) w' := hall.2.2.1 _ rfl
  have e16 : (fun u _ => u = (.string s)) (a'.eval (.tmp 16)) w' := hall.2.2.2.1 _ rfl
  have e17 : (fun u _ => u = (.pointer (some ⟨b, 0, none⟩))) (a'.eval (.tmp 17)) w' := hall.2.2.2.2.1 _ rfl
  have e18 : (fun u _ => u = (.pointer (some ⟨b, 0, none⟩))) (a'.eval (.tmp 18)) w' := hall.2.2.2.2.2.1 _ rfl
  have e19 : (fun u _ => u = (.pointer (some ⟨b, 1, none⟩))) (a'.eval (.tmp 19)) w' := hall.2.2.2.2.2.2.1 _ rfl
  have e20 : (fun u _ => u = (.int .i64 a)) (a'.eval (.tmp 20)) w' := hall.2.2.2.2.2.2.2.1 _ rfl
  have e21 : (fun u _ => u = (.string (s.extract a s.size))) (a'.eval (.tmp 21)) w' := hall.2.2.2.2.2.2.2.2.1 _ rfl
  have e7 : (fun u _ => u = (.string (s.extract a s.size))) (a'.eval (.tmp 7)) w' := hall.2.2.2.2.2.2.2.2.2.1 _ rfl
  simp only [List.foldl_cons, List.foldl_nil, Act.put, List.setIfInBounds_toArray, List.set_cons_succ, List.set_cons_zero, e13, e14, e15, e16, e17, e18, e19, e20, e21, e7] at hA
  clear hO hall e13 e14 e15 e16 e17 e18 e19 e20 e21 e7
  subst hA
  have B1 := Lib.hid (of_drew hE)
  have HB := Lib.hid (extB_block hE (by simp) H.out)
  clear hE c0 c1 i1 i2 i3 H
  obtain ⟨t, ht⟩ : ∃ t, s.extract a s.size = t := ⟨_, rfl⟩
  have hts : t.size = s.size - a := by rw [← ht, ByteArray.size_extract]; omega
  rw [ht]
  have HTT := Lib.hid ht
  clear ht
  by_cases h0 : t.size = 0
  · have he := empty_of h0
    have E : Hid (takeOf sort s a most = .error 4) := Lib.hid (by unfold takeOf headOf; rw [HTT.out, if_pos h0])
    clear hts h0
    go_wp2
    go_ret3
    rw [E.out]
    exact ⟨below_extB B1.out b, rfl, HB.out⟩
  · have he := full_of h0
    have h1 : 0 < t.size := by omega
    have hbb := byte_bd t 0
    have hz' : (t[0].toNat : Int) = byte t 0 := byte0 t h1
    obtain ⟨z, hz⟩ : ∃ z, byte t 0 = z := ⟨_, rfl⟩
    have HTS := Lib.hid hts
    have RC := Lib.hid (ref_cases sort t h1)
    clear hts h0
    rw [hz] at hbb hz'
    have HZ := Lib.hid hz
    clear hz
    have hzt : z.toNat < 256 := by omega
    go_wp2_with fail
    refine (refRow_any sort h5 z _ hbb.1 hbb.2).mono ?_
    rintro e w2 ⟨rfl, rfl⟩
    rcases RC.out with ⟨r1, r2⟩ | ⟨r, q, ok, hlo, hq, hq8, r1, r2⟩
    · rw [HZ.out] at r1
      rw [r1]
      have E : Hid (takeOf sort s a most = .error 5) := Lib.hid (by unfold takeOf; rw [HTT.out, r2])
      clear r1 r2
      go_wp2
      go_ret3
      rw [E.out]
      exact ⟨below_extB B1.out b, rfl, HB.out⟩
    · rw [HZ.out] at r1
      rw [r1]
      have R2 := Lib.hid r2
      have HQ := Lib.hid hq
      have HLO := Lib.hid hlo
      clear r1 r2 hq hlo
      by_cases hsz : (t.size : Int) < 1 + q
      · have E : Hid (takeOf sort s a most = .error 4) := Lib.hid (by unfold takeOf; rw [HTT.out, R2.out, if_pos hsz])
        go_wp2
        go_ret3
        rw [E.out]
        exact ⟨below_extB B1.out b, rfl, HB.out⟩
      · obtain ⟨v0, hv0⟩ : ∃ v0, numAt t r 0 = v0 := ⟨_, rfl⟩
        rw [hv0]
        have HV0 := Lib.hid hv0
        clear hv0
        go_wp2
        go_loopg [9, 11] q (fun g n i wx => ∃ j : Nat, g + j = q ∧ i = .int .i64 (j + 1) ∧ n = .int .u64 (numAt t r j) ∧ wx = w2)
        case atStart => exact ⟨0, rfl, rfl, by rw [HV0.out], rfl⟩
        case round =>
          obtain ⟨j, hj, rfl, rfl, rfl⟩ := hrel
          have vb := numAt_bd (s := t) (r := r) (j := j) (by omega) ok HLO.out
          by_cases hjq : j < q
          · have b0 : (j : Int) + 1 ≤ q := by omega
            have b1 : j + 1 < t.size := by omega
            have b2 : (j : Int) + 1 < t.size := by omega
            have vs := Lib.hid (numAt_succ t r j (by have := HQ.out; omega))
            have vb2 := numAt_lt (s := t) (r := r) (j := j) (by omega) ok HLO.out
            have cb := byte_bd t (1 + j)
            have hx := byte_at t j b1
            obtain ⟨c, hc⟩ : ∃ c, byte t (1 + j) = c := ⟨_, rfl⟩
            obtain ⟨v, hv⟩ : ∃ v, numAt t r j = v := ⟨_, rfl⟩
            rw [hc] at cb hx
            rw [hv] at vb vb2 ⊢
            have HC := Lib.hid hc
            have HV := Lib.hid hv
            clear hc hv
            go_wp2
            go_roundg (gk - 1)
            case rel => exact ⟨j + 1, by omega, by go_num, (by rw [vs.out, HV.out, HC.out, Int.mul_comm v 256]), rfl⟩
            case measure => omega
          · obtain rfl : j = q := by omega
            have hts := HTS.out
            have hr2 : (t.extract (1 + j) t.size).size = t.size - (1 + j) := by rw [ByteArray.size_extract]; omega
            have HO : headOf (s.extract a s.size) (rowsOf sort) = if numAt t r j < r.least then .error 5 else .ok (numAt t r j, t.extract (1 + j) t.size) := by rw [HTT.out, R2.out, if_neg (by omega)]
            obtain ⟨v, hv⟩ : ∃ v, numAt t r j = v := ⟨_, rfl⟩
            rw [hv] at HO vb ⊢
            have d1 : wr.cell? ⟨b, 1, none⟩ = some (.int .i64 a) := block_cell HB.out 1
            have d2 : wr.cell? ⟨b, 2, none⟩ = some (.int .i64 most) := block_cell HB.out 2
            have d3 : wr.frozen? ⟨b, 1, none⟩ = false := block_free HB.out 1
            have im : IntKind.u64.wrap most = most := IntWalk.u64_in _ (by omega)
            have HHO := Lib.hid HO
            have HR2 := Lib.hid hr2
            clear hv HO hr2 HV0 RC R2
            by_cases hvl : v < r.least
            · have E : Hid (takeOf sort s a most = .error 5) := Lib.hid (by unfold takeOf; rw [HHO.out, if_pos hvl])
              go_wp2
              go_ret3
              rw [E.out]
              exact ⟨below_extB B1.out b, rfl, HB.out⟩
            · have HO2 : Hid (headOf (s.extract a s.size) (rowsOf sort) = .ok (v, t.extract (1 + j) t.size)) := Lib.hid (by rw [HHO.out, if_neg hvl])
              by_cases q0 : sort = 0
              · have s0 : ((sort : Int) != 0) = false := by simp; omega
                have s1 : ((sort : Int) != 1) = true := by simp; omega
                have s2 : ((sort : Int) != 2) = true := by simp; omega
                have E : Hid (takeOf sort s a most = .ok (v, ⟨#[]⟩, s.size - (t.extract (1 + j) t.size).size)) := Lib.hid (by
                  unfold takeOf; rw [HO2.out]
                  show (if sort ≠ 0 ∧ most < v then _ else _) = _
                  rw [if_neg (fun e => e.1 q0), if_neg (by omega)])
                clear q0
                go_wp2
                go_ret3
                rw [E.out]
                refine ⟨ext_set1 (below_extB B1.out b) _, rfl, ?_⟩
                have h := block_setCell HB.out (o := 1) (.int .i64 ((a : Int) + 1 + j))
                show _ = some (Obj.cells #[_, .int .i64 ((s.size - (t.extract (1 + j) t.size).size : Nat) : Int), _] _ _)
                rw [HR2.out, show ((s.size - (t.size - (1 + j)) : Nat) : Int) = (a : Int) + 1 + j by omega]
                exact h
              · have s0 : ((sort : Int) != 0) = true := by simp; omega
                by_cases q1 : most < v
                · have E : Hid (takeOf sort s a most = .error 3) := Lib.hid (by
                    unfold takeOf; rw [HO2.out]
                    show (if sort ≠ 0 ∧ most < v then _ else _) = _
                    rw [if_pos ⟨q0, q1⟩])
                  go_wp2
                  go_ret3
                  rw [E.out]
                  exact ⟨below_extB B1.out b, rfl, HB.out⟩
                · by_cases q2 : sort = 1 ∨ sort = 2
                  · have k0 : IntKind.u64.wrap ((t.size : Int) - 1 - j) = (t.size : Int) - 1 - j := IntWalk.u64_in _ (by omega)
                    have Q2 := Lib.hid q2
                    by_cases hr : (t.size : Int) - 1 - j < v
                    · have E : Hid (takeOf sort s a most = .error 4) := Lib.hid (by
                        unfold takeOf; rw [HO2.out]
                        show (if sort ≠ 0 ∧ most < v then _ else _) = _
                        have := HR2.out
                        rw [if_neg (fun e => q1 e.2), if_pos q2, if_pos (by omega)])
                      clear q0
                      rcases q2 with e | e
                      · have s1 : ((sort : Int) != 1) = false := by simp; omega
                        clear e
                        go_wp2
                        go_ret3
                        rw [E.out]
                        exact ⟨below_extB B1.out b, rfl, HB.out⟩
                      · have s1 : ((sort : Int) != 1) = true := by simp; omega
                        have s2 : ((sort : Int) != 2) = false := by simp; omega
                        clear e
                        go_wp2
                        go_ret3
                        rw [E.out]
                        exact ⟨below_extB B1.out b, rfl, HB.out⟩
                    · have E : Hid (takeOf sort s a most = .ok (v, (t.extract (1 + j) t.size).extract 0 v.toNat, s.size - ((t.extract (1 + j) t.size).size - v.toNat))) := Lib.hid (by
                        unfold takeOf; rw [HO2.out]
                        show (if sort ≠ 0 ∧ most < v then _ else _) = _
                        have := HR2.out
                        rw [if_neg (fun e => q1 e.2), if_pos q2, if_neg (by omega)])
                      have iv : IntKind.i64.wrap v = v := IntWalk.i64_in _ (by omega)
                      have k1 : IntKind.i64.wrap (1 + (j : Int)) = 1 + j := IntWalk.i64_in _ (by omega)
                      have k2 : 1 + (j : Int) ≤ 1 + j + v := by omega
                      have k3 : 1 + (j : Int) + v ≤ t.size := by omega
                      have k4 : (1 + (j : Int)).toNat = 1 + j := by omega
                      have k5 : (1 + (j : Int) + v).toNat = 1 + j + v.toNat := by omega
                      have k6 : 0 ≤ 1 + (j : Int) + v := by omega
                      have k7 : 0 ≤ 1 + (j : Int) := by omega
                      have fin : ∀ W2 : World, Below (wr.setCell ⟨b, 1, none⟩ (.int .i64 ((a : Int) + (1 + j + v)))).heap.size (wr.setCell ⟨b, 1, none⟩ (.int .i64 ((a : Int) + (1 + j + v)))) W2 → RTakeIs (takeOf sort s a most) b s most a w (.returned (.tuple #[.int .u64 v, .string (t.extract (1 + j) (1 + j + v.toNat)), .int .i64 0])) W2 := fun W2 hW2 => by
                        rw [E.out]
                        refine ⟨ExtB_trans _ _ _ _ (ext_set1 (below_extB B1.out b) _) (below_extB hW2 b), ?_, ?_⟩
                        · show _ = Ending.returned (.tuple #[_, .string ((t.extract (1 + j) t.size).extract 0 v.toNat), _])
                          rw [ext_ext t (1 + j) v.toNat (by omega)]
                        · have h := (hW2.block b (by simp; exact lt_of_block HB.out)).trans (block_setCell HB.out (o := 1) (.int .i64 ((a : Int) + (1 + j + v))))
                          show _ = some (Obj.cells #[_, .int .i64 ((s.size - ((t.extract (1 + j) t.size).size - v.toNat) : Nat) : Int), _] _ _)
                          rw [HR2.out, show ((s.size - ((t.size - (1 + j)) - v.toNat) : Nat) : Int) = (a : Int) + (1 + j + v) by omega]
                          exact h
                      have FIN := Lib.hid fin
                      clear fin E q0
                      rcases q2 with e | e
                      · have s1 : ((sort : Int) != 1) = false := by simp; omega
                        clear e
                        go_wp2
                        refine wp_region_all 1000 (none) (phis [fun u _ => u = (.int .u64 v), fun u _ => u = (.string t), fun u _ => u = (.int .i64 j), fun u _ => u = (.int .i64 (1 + j)), fun u _ => u = (.int .i64 (1 + j + v)), fun u _ => u = (.string (t.extract (1 + j) (1 + j + v.toNat))), fun u _ => u = (.int .u64 v), fun u _ => u = (.string (t.extract (1 + j) (1 + j + v.toNat))), fun u _ => u = (.int .i64 0)]) rfl (by kernel_rfl) (mono_of ⟨mono_eq, mono_eq, mono_eq, mono_eq, mono_eq, mono_eq, mono_eq, mono_eq, mono_eq, trivial⟩) (steps_of 9 ⟨?s0, ?s1, ?s2, ?s3, ?s4, ?s5, ?s6, ?s7, ?s8, trivial⟩) ?_
                        case s0 =>
                          refine step_val (v := (.int .u64 v)) (fun av wv hE hS hO hD => ?_) (fun _ => rfl)
                          have h9 : av.eval (.tmp 9) = (.int .u64 v) := hO.2.2 9 rfl
                          have f9 := (ev_form av 9).symm.trans h9
                          refine ⟨rfl, ?_⟩
                          simp [go_sem, f9, k1, k2, k3, k4, k5, k6, k7]
                        case s1 =>
                          refine step_val (v := (.string t)) (fun av wv hE hS hO hD => ?_) (fun _ => rfl)
                          have h7 : av.eval (.tmp 7) = (.string t) := hO.2.2 7 rfl
                          have f7 := (ev_form av 7).symm.trans h7
                          refine ⟨rfl, ?_⟩
                          simp [go_sem, f7, k1, k2, k3, k4, k5, k6, k7]
                        case s2 =>
                          refine step_val (v := (.int .i64 j)) (fun av wv hE hS hO hD => ?_) (fun _ => rfl)
                          have h8 : av.eval (.tmp 8) = (.int .i64 j) := hO.2.2 8 rfl
                          have f8 := (ev_form av 8).symm.trans h8
                          refine ⟨rfl, ?_⟩
                          simp [go_sem, f8, k1, k2, k3, k4, k5, k6, k7]
                        case s3 =>
                          refine step_val (v := (.int .i64 (1 + j))) (fun av wv hE hS hO hD => ?_) (fun _ => rfl)
                          have d107 : av.eval (.tmp 107) = (.int .i64 j) := hD.1 rfl _ rfl
                          have f107 := (ev_form av 107).symm.trans d107
                          refine ⟨rfl, ?_⟩
                          simp [go_sem, f107, k1, k2, k3, k4, k5, k6, k7]
                        case s4 =>
                          refine step_val (v := (.int .i64 (1 + j + v))) (fun av wv hE hS hO hD => ?_) (fun _ => rfl)
                          have h12 : av.eval (.tmp 12) = (.int .i64 (1 + j + v)) := hO.2.2 12 rfl
                          have f12 := (ev_form av 12).symm.trans h12
                          refine ⟨rfl, ?_⟩
                          simp [go_sem, f12, k1, k2, k3, k4, k5, k6, k7]
                        case s5 =>
                          refine step_val (v := (.string (t.extract (1 + j) (1 + j + v.toNat)))) (fun av wv hE hS hO hD => ?_) (fun _ => rfl)
                          have d106 : av.eval (.tmp 106) = (.string t) := hD.1 rfl _ rfl
                          have f106 := (ev_form av 106).symm.trans d106
                          have d108 : av.eval (.tmp 108) = (.int .i64 (1 + j)) := hD.2.1 rfl _ rfl
                          have f108 := (ev_form av 108).symm.trans d108
                          have d109 : av.eval (.tmp 109) = (.int .i64 (1 + j + v)) := hD.2.2.1 rfl _ rfl
                          have f109 := (ev_form av 109).symm.trans d109
                          refine ⟨rfl, ?_⟩
                          simp [go_sem, f106, f108, f109, k1, k2, k3, k4, k5, k6, k7]
                        case s6 =>
                          refine step_val (v := (.int .u64 v)) (fun av wv hE hS hO hD => ?_) (fun _ => rfl)
                          have d105 : av.eval (.tmp 105) = (.int .u64 v) := hD.1 rfl _ rfl
                          have f105 := (ev_form av 105).symm.trans d105
                          refine ⟨rfl, ?_⟩
                          simp [go_sem, f105, k1, k2, k3, k4, k5, k6, k7]
                        case s7 =>
                          refine step_val (v := (.string (t.extract (1 + j) (1 + j + v.toNat)))) (fun av wv hE hS hO hD => ?_) (fun _ => rfl)
                          have d110 : av.eval (.tmp 110) = (.string (t.extract (1 + j) (1 + j + v.toNat))) := hD.1 rfl _ rfl
                          have f110 := (ev_form av 110).symm.trans d110
                          refine ⟨rfl, ?_⟩
                          simp [go_sem, f110, k1, k2, k3, k4, k5, k6, k7]
                        case s8 =>
                          refine step_val (v := (.int .i64 0)) (fun av wv hE hS hO hD => ?_) (fun _ => rfl)
                          refine ⟨rfl, ?_⟩
                          simp [go_sem, k1, k2, k3, k4, k5, k6, k7]
                        intro a' w' hE hO hall
                        have hA := act_of_outer (ds := [105, 106, 107, 108, 109, 110, 4, 5, 6]) rfl hO (by kernel_rfl)
                        have e105 : (fun u _ => u = (.int .u64 v)) (a'.eval (.tmp 105)) w' := hall.1 _ rfl
                        have e106 : (fun u _ => u = (.string t)) (a'.eval (.tmp 106)) w' := hall.2.1 _ rfl
                        have e107 : (fun u _ => u = (.int .i64 j)) (a'.eval (.tmp 107)) w' := hall.2.2.1 _ rfl
                        have e108 : (fun u _ => u = (.int .i64 (1 + j))) (a'.eval (.tmp 108)) w' := hall.2.2.2.1 _ rfl
                        have e109 : (fun u _ => u = (.int .i64 (1 + j + v))) (a'.eval (.tmp 109)) w' := hall.2.2.2.2.1 _ rfl
                        have e110 : (fun u _ => u = (.string (t.extract (1 + j) (1 + j + v.toNat)))) (a'.eval (.tmp 110)) w' := hall.2.2.2.2.2.1 _ rfl
                        have e4 : (fun u _ => u = (.int .u64 v)) (a'.eval (.tmp 4)) w' := hall.2.2.2.2.2.2.1 _ rfl
                        have e5 : (fun u _ => u = (.string (t.extract (1 + j) (1 + j + v.toNat)))) (a'.eval (.tmp 5)) w' := hall.2.2.2.2.2.2.2.1 _ rfl
                        have e6 : (fun u _ => u = (.int .i64 0)) (a'.eval (.tmp 6)) w' := hall.2.2.2.2.2.2.2.2.1 _ rfl
                        simp only [List.foldl_cons, List.foldl_nil, Act.put, List.setIfInBounds_toArray, List.set_cons_succ, List.set_cons_zero, e105, e106, e107, e108, e109, e110, e4, e5, e6] at hA
                        clear hO hall e105 e106 e107 e108 e109 e110 e4 e5 e6
                        subst hA
                        have Y := Lib.hid (of_drew hE)
                        clear hE
                        go_wp2
                        go_ret3
                        exact FIN.out _ Y.out
                      · have s1 : ((sort : Int) != 1) = true := by simp; omega
                        have s2 : ((sort : Int) != 2) = false := by simp; omega
                        clear e
                        go_wp2
                        refine wp_region_all 1000 (none) (phis [fun u _ => u = (.int .u64 v), fun u _ => u = (.string t), fun u _ => u = (.int .i64 j), fun u _ => u = (.int .i64 (1 + j)), fun u _ => u = (.int .i64 (1 + j + v)), fun u _ => u = (.string (t.extract (1 + j) (1 + j + v.toNat))), fun u _ => u = (.int .u64 v), fun u _ => u = (.string (t.extract (1 + j) (1 + j + v.toNat))), fun u _ => u = (.int .i64 0)]) rfl (by kernel_rfl) (mono_of ⟨mono_eq, mono_eq, mono_eq, mono_eq, mono_eq, mono_eq, mono_eq, mono_eq, mono_eq, trivial⟩) (steps_of 9 ⟨?s0, ?s1, ?s2, ?s3, ?s4, ?s5, ?s6, ?s7, ?s8, trivial⟩) ?_
                        case s0 =>
                          refine step_val (v := (.int .u64 v)) (fun av wv hE hS hO hD => ?_) (fun _ => rfl)
                          have h9 : av.eval (.tmp 9) = (.int .u64 v) := hO.2.2 9 rfl
                          have f9 := (ev_form av 9).symm.trans h9
                          refine ⟨rfl, ?_⟩
                          simp [go_sem, f9, k1, k2, k3, k4, k5, k6, k7]
                        case s1 =>
                          refine step_val (v := (.string t)) (fun av wv hE hS hO hD => ?_) (fun _ => rfl)
                          have h7 : av.eval (.tmp 7) = (.string t) := hO.2.2 7 rfl
                          have f7 := (ev_form av 7).symm.trans h7
                          refine ⟨rfl, ?_⟩
                          simp [go_sem, f7, k1, k2, k3, k4, k5, k6, k7]
                        case s2 =>
                          refine step_val (v := (.int .i64 j)) (fun av wv hE hS hO hD => ?_) (fun _ => rfl)
                          have h8 : av.eval (.tmp 8) = (.int .i64 j) := hO.2.2 8 rfl
                          have f8 := (ev_form av 8).symm.trans h8
                          refine ⟨rfl, ?_⟩
                          simp [go_sem, f8, k1, k2, k3, k4, k5, k6, k7]
                        case s3 =>
                          refine step_val (v := (.int .i64 (1 + j))) (fun av wv hE hS hO hD => ?_) (fun _ => rfl)
                          have d107 : av.eval (.tmp 107) = (.int .i64 j) := hD.1 rfl _ rfl
                          have f107 := (ev_form av 107).symm.trans d107
                          refine ⟨rfl, ?_⟩
                          simp [go_sem, f107, k1, k2, k3, k4, k5, k6, k7]
                        case s4 =>
                          refine step_val (v := (.int .i64 (1 + j + v))) (fun av wv hE hS hO hD => ?_) (fun _ => rfl)
                          have h12 : av.eval (.tmp 12) = (.int .i64 (1 + j + v)) := hO.2.2 12 rfl
                          have f12 := (ev_form av 12).symm.trans h12
                          refine ⟨rfl, ?_⟩
                          simp [go_sem, f12, k1, k2, k3, k4, k5, k6, k7]
                        case s5 =>
                          refine step_val (v := (.string (t.extract (1 + j) (1 + j + v.toNat)))) (fun av wv hE hS hO hD => ?_) (fun _ => rfl)
                          have d106 : av.eval (.tmp 106) = (.string t) := hD.1 rfl _ rfl
                          have f106 := (ev_form av 106).symm.trans d106
                          have d108 : av.eval (.tmp 108) = (.int .i64 (1 + j)) := hD.2.1 rfl _ rfl
                          have f108 := (ev_form av 108).symm.trans d108
                          have d109 : av.eval (.tmp 109) = (.int .i64 (1 + j + v)) := hD.2.2.1 rfl _ rfl
                          have f109 := (ev_form av 109).symm.trans d109
                          refine ⟨rfl, ?_⟩
                          simp [go_sem, f106, f108, f109, k1, k2, k3, k4, k5, k6, k7]
                        case s6 =>
                          refine step_val (v := (.int .u64 v)) (fun av wv hE hS hO hD => ?_) (fun _ => rfl)
                          have d105 : av.eval (.tmp 105) = (.int .u64 v) := hD.1 rfl _ rfl
                          have f105 := (ev_form av 105).symm.trans d105
                          refine ⟨rfl, ?_⟩
                          simp [go_sem, f105, k1, k2, k3, k4, k5, k6, k7]
                        case s7 =>
                          refine step_val (v := (.string (t.extract (1 + j) (1 + j + v.toNat)))) (fun av wv hE hS hO hD => ?_) (fun _ => rfl)
                          have d110 : av.eval (.tmp 110) = (.string (t.extract (1 + j) (1 + j + v.toNat))) := hD.1 rfl _ rfl
                          have f110 := (ev_form av 110).symm.trans d110
                          refine ⟨rfl, ?_⟩
                          simp [go_sem, f110, k1, k2, k3, k4, k5, k6, k7]
                        case s8 =>
                          refine step_val (v := (.int .i64 0)) (fun av wv hE hS hO hD => ?_) (fun _ => rfl)
                          refine ⟨rfl, ?_⟩
                          simp [go_sem, k1, k2, k3, k4, k5, k6, k7]
                        intro a' w' hE hO hall
                        have hA := act_of_outer (ds := [105, 106, 107, 108, 109, 110, 4, 5, 6]) rfl hO (by kernel_rfl)
                        have e105 : (fun u _ => u = (.int .u64 v)) (a'.eval (.tmp 105)) w' := hall.1 _ rfl
                        have e106 : (fun u _ => u = (.string t)) (a'.eval (.tmp 106)) w' := hall.2.1 _ rfl
                        have e107 : (fun u _ => u = (.int .i64 j)) (a'.eval (.tmp 107)) w' := hall.2.2.1 _ rfl
                        have e108 : (fun u _ => u = (.int .i64 (1 + j))) (a'.eval (.tmp 108)) w' := hall.2.2.2.1 _ rfl
                        have e109 : (fun u _ => u = (.int .i64 (1 + j + v))) (a'.eval (.tmp 109)) w' := hall.2.2.2.2.1 _ rfl
                        have e110 : (fun u _ => u = (.string (t.extract (1 + j) (1 + j + v.toNat)))) (a'.eval (.tmp 110)) w' := hall.2.2.2.2.2.1 _ rfl
                        have e4 : (fun u _ => u = (.int .u64 v)) (a'.eval (.tmp 4)) w' := hall.2.2.2.2.2.2.1 _ rfl
                        have e5 : (fun u _ => u = (.string (t.extract (1 + j) (1 + j + v.toNat)))) (a'.eval (.tmp 5)) w' := hall.2.2.2.2.2.2.2.1 _ rfl
                        have e6 : (fun u _ => u = (.int .i64 0)) (a'.eval (.tmp 6)) w' := hall.2.2.2.2.2.2.2.2.1 _ rfl
                        simp only [List.foldl_cons, List.foldl_nil, Act.put, List.setIfInBounds_toArray, List.set_cons_succ, List.set_cons_zero, e105, e106, e107, e108, e109, e110, e4, e5, e6] at hA
                        clear hO hall e105 e106 e107 e108 e109 e110 e4 e5 e6
                        subst hA
                        have Y := Lib.hid (of_drew hE)
                        clear hE
                        go_wp2
                        go_ret3
                        exact FIN.out _ Y.out
                  · have s1 : ((sort : Int) != 1) = true := by simp; omega
                    have s2 : ((sort : Int) != 2) = true := by simp; omega
                    have E : Hid (takeOf sort s a most = .ok (v, ⟨#[]⟩, s.size - (t.extract (1 + j) t.size).size)) := Lib.hid (by
                      unfold takeOf; rw [HO2.out]
                      show (if sort ≠ 0 ∧ most < v then _ else _) = _
                      rw [if_neg (fun e => q1 e.2), if_neg q2])
                    clear q0 q2
                    go_wp2
                    go_ret3
                    rw [E.out]
                    refine ⟨ext_set1 (below_extB B1.out b) _, rfl, ?_⟩
                    have h := block_setCell HB.out (o := 1) (.int .i64 ((a : Int) + 1 + j))
                    show _ = some (Obj.cells #[_, .int .i64 ((s.size - (t.extract (1 + j) t.size).size : Nat) : Int), _] _ _)
                    rw [HR2.out, show ((s.size - (t.size - (1 + j)) : Nat) : Int) = (a : Int) + 1 + j by omega]
                    exact h
end Go.Proofs.YtihiaopilnjonaaGreatDoor
namespace Go.Proofs.YtihiaopilnjonaaGreatDoor
open Go.RowKit
set_option linter.unusedSimpArgs false
set_option linter.unusedVariables false
abbrev Cst := Except Flt Nat
def Cst.flt : Cst → Flt
  | .ok _ => (0, 0)
  | .error f => f
def CurB (w : World) (cb rb : Nat) (f : Flt) : Prop := w.heap[cb]? = some (.cells #[.pointer (some ⟨rb, 0, none⟩), .int .i64 f.1, .int .i64 f.2] 205 (0, 0))
structure CurIs (w : World) (cb rb : Nat) (s : ByteArray) (σ : Cst) : Prop where
  c : CurB w cb rb σ.flt
  ne : cb ≠ rb
  sz : s.size ≤ 140737488355328
  st : match σ with | .ok a => RefB w rb s a 10240 ∧ a ≤ s.size | .error f => f.1 ≠ 0 ∧ ∃ a, RefB w rb s a 10240 ∧ a ≤ s.size
theorem CurIs.below {w w' : World} {cb rb : Nat} {s : ByteArray} {σ : Cst} (h : CurIs w cb rb s σ) (hb : Below w.heap.size w w') : CurIs w' cb rb s σ := by
  refine ⟨(hb.block _ (lt_of_block h.c)).trans h.c, h.ne, h.sz, ?_⟩
  have hs := h.st
  cases σ with
  | ok a => exact ⟨(hb.block _ (lt_of_block hs.1)).trans hs.1, hs.2⟩
  | error f => obtain ⟨h1, a, h2, h3⟩ := hs; exact ⟨h1, a, (hb.block _ (lt_of_block h2)).trans h2, h3⟩
theorem CurIs.rd {w : World} {cb rb : Nat} {s : ByteArray} {σ : Cst} (h : CurIs w cb rb s σ) : ∃ a, RefB w rb s a 10240 ∧ a ≤ s.size := by
  have hs := h.st
  cases σ with
  | ok a => exact ⟨a, hs⟩
  | error f => exact hs.2
theorem CurIs.flt0 {w : World} {cb rb : Nat} {s : ByteArray} {f : Flt} (h : CurIs w cb rb s (.error f)) : f.1 ≠ 0 := h.st.1
def CurR (v : Value) (σ : Cst) (cb rb : Nat) (s : ByteArray) (w : World) (e : Ending) (w' : World) : Prop := e = .returned v ∧ CurIs w' cb rb s σ ∧ Chg rb cb w w'
theorem CurIs.set {w : World} {cb rb : Nat} {s : ByteArray} {σ : Cst} (h : CurIs w cb rb s σ) (f : Flt) (hf : f.1 ≠ 0) : CurIs ((w.setCell ⟨cb, 1, none⟩ (.int .i64 f.1)).setCell ⟨cb, 2, none⟩ (.int .i64 f.2)) cb rb s (.error f) := by
  obtain ⟨a, h1, h2⟩ := h.rd
  exact ⟨block_setCell (block_setCell h.c _) _, h.ne, h.sz, hf, a, block_setCell_ne (block_setCell_ne h1 (by exact fun e => h.ne e.symm) _) (by exact fun e => h.ne e.symm) _, h2⟩
def isBad : Cst → Bool
  | .ok _ => false
  | .error _ => true
theorem bad_any (cb rb : Nat) (s : ByteArray) (σ : Cst) (w : World) (h : CurIs w cb rb s σ) : Calls Tryz.prog 127 #[.pointer (some ⟨cb, 0, none⟩)] w fun e w' => e = .returned (.bool (isBad σ)) ∧ w' = w := by
  cases σ with
  | ok a =>
    have c1 : w.cell? ⟨cb, 1, none⟩ = some (.int .i64 0) := block_cell h.c 1
    clear h
    go_enter Tryz.func127, Tryz.ntmps127
    go_wp2
    go_ret
    exact ⟨rfl, rfl⟩
  | error f =>
    have c1 : w.cell? ⟨cb, 1, none⟩ = some (.int .i64 f.1) := block_cell h.c 1
    have h0 : (f.1 != 0) = true := by simpa using h.flt0
    clear h
    go_enter Tryz.func127, Tryz.ntmps127
    go_wp2
    go_ret
    exact ⟨rfl, rfl⟩
def failS (b : Bool) (k : Int) : Cst → Cst
  | .ok a => if b then .error (k, 0) else .ok a
  | .error f => .error f
set_option maxRecDepth 100000 in
theorem fail_any (cb rb : Nat) (s : ByteArray) (σ : Cst) (b : Bool) (k : Int) (w : World) (h : CurIs w cb rb s σ) (hk : k ≠ 0) : Calls Tryz.prog 131 #[.pointer (some ⟨cb, 0, none⟩), .bool b, .int .i64 k] w (CurR (.tuple #[]) (failS b k σ) cb rb s w) := by
  have H := Lib.hid h
  have HB := Lib.hid (bad_any cb rb s σ w h)
  have q0 : ∀ o, w.cell? ⟨cb, o, none⟩ = _ := block_cell h.c
  have q1 : ∀ o, w.frozen? ⟨cb, o, none⟩ = false := block_free h.c
  have l0 : cb < w.heap.size := lt_of_block h.c
  clear h
  cases b with
  | false =>
    go_enter Tryz.func131, Tryz.ntmps131
    go_wp2
    go_end0
    refine ⟨rfl, ?_, Chg.refl _ _ _⟩
    cases σ <;> exact H.out
  | true =>
    go_enter Tryz.func131, Tryz.ntmps131
    go_wp2_with fail
    refine HB.out.mono ?_
    rintro e w1 ⟨rfl, rfl⟩
    cases σ with
    | error f =>
      simp only [isBad]
      go_wp2
      go_end0
      exact ⟨rfl, H.out, Chg.refl _ _ _⟩
    | ok a =>
      simp only [isBad]
      go_wp2
      go_end0
      exact ⟨rfl, H.out.set (k, 0) hk, ((Chg.refl rb cb w1).set 1 _).set 2 _⟩
def tkS (sort : Nat) (s : ByteArray) : Cst → (Int × ByteArray) × Cst
  | .error f => ((0, ⟨#[]⟩), .error f)
  | .ok a => match tkR sort s a with
    | .error f => ((0, ⟨#[]⟩), .error f)
    | .ok x => ((x.1, x.2.1), .ok x.2.2)
theorem CurIs.sz2 {w : World} {cb rb : Nat} {s : ByteArray} {σ : Cst} (h : CurIs w cb rb s σ) : s.size ≤ 9223372036854775807 := by have := h.sz; omega
set_option maxRecDepth 100000 in
theorem ctake_any (cb rb : Nat) (s : ByteArray) (σ : Cst) (sort : Nat) (w : World) (h : CurIs w cb rb s σ) (h5 : sort < 5) :
    Calls Tryz.prog 142 #[.pointer (some ⟨cb, 0, none⟩), .int .i64 sort] w (CurR (.tuple #[.int .u64 (tkS sort s σ).1.1, .string (tkS sort s σ).1.2]) (tkS sort s σ).2 cb rb s w) := by
  have H := Lib.hid h
  have HB := Lib.hid (bad_any cb rb s σ w h)
  have c0 : w.cell? ⟨cb, 0, none⟩ = some (.pointer (some ⟨rb, 0, none⟩)) := block_cell h.c 0
  clear h
  go_enter Tryz.func142, Tryz.ntmps142
  go_wp2_with fail
  refine HB.out.mono ?_
  rintro e w1 ⟨rfl, rfl⟩
  cases σ with
  | error f =>
    simp only [isBad]
    go_wp2
    go_ret2
    exact ⟨rfl, H.out, Chg.refl _ _ _⟩
  | ok a =>
    simp only [isBad]
    have hst := H.out.st
    go_wp2_with fail
    refine (refTake_any w1 rb s a 10240 sort hst.1 hst.2 H.out.sz (by decide) (by decide) h5).mono ?_
    rintro e w2 ⟨hE, hh⟩
    have hne := H.out.ne
    have hcb : CurB w2 cb rb (0, 0) := (hE.block _ (lt_of_block H.out.c) (by simpa using hne)).trans H.out.c
    have HE := Lib.hid hE
    have HCB := Lib.hid hcb
    cases hr : takeOf sort s a 10240 with
    | ok x =>
      rw [hr] at hh
      obtain ⟨rfl, hrd⟩ := hh
      have hle := takeOf_le hr
      have HR : Hid (tkS sort s (.ok a) = ((x.1, x.2.1), .ok x.2.2)) := Lib.hid (by simp only [tkS, tkR, hr])
      have HRD := Lib.hid hrd
      clear hE hcb hr hrd
      go_wp2
      go_ret2
      rw [HR.out]
      exact ⟨rfl, ⟨HCB.out, hne, H.out.sz, HRD.out, hle⟩, Chg.of_ext HE.out⟩
    | error k =>
      rw [hr] at hh
      obtain ⟨rfl, hrd⟩ := hh
      have hk := takeOf_err hr
      have hk2 : (k != 0) = true := by simpa using hk
      have HR : Hid (tkS sort s (.ok a) = ((0, ⟨#[]⟩), .error (k, a))) := Lib.hid (by simp only [tkS, tkR, hr])
      have HRD := Lib.hid hrd
      have d0 : ∀ o, w2.cell? ⟨cb, o, none⟩ = _ := block_cell hcb
      have d1 : ∀ o, w2.frozen? ⟨cb, o, none⟩ = false := block_free hcb
      have d2 : ∀ o, w2.cell? ⟨rb, o, none⟩ = _ := block_cell hrd
      have l0 : cb < w2.heap.size := lt_of_block hcb
      clear hE hcb hr hrd c0
      go_wp2
      go_ret2
      rw [HR.out]
      have hcur : CurIs w2 cb rb s (.ok a) := ⟨HCB.out, hne, H.out.sz, HRD.out, hst.2⟩
      exact ⟨rfl, hcur.set (k, a) hk, ((Chg.of_ext HE.out).set 1 _).set 2 _⟩
def pairsS (s : ByteArray) (σ : Cst) : Int × Cst := ((tkS 4 s σ).1.1, (tkS 4 s σ).2)
set_option maxRecDepth 100000 in
theorem cpairs_any (cb rb : Nat) (s : ByteArray) (σ : Cst) (w : World) (h : CurIs w cb rb s σ) :
    Calls Tryz.prog 126 #[.pointer (some ⟨cb, 0, none⟩)] w (CurR (.int .u64 (pairsS s σ).1) (pairsS s σ).2 cb rb s w) := by
  have H := Lib.hid (ctake_any cb rb s σ 4 w h (by decide))
  clear h
  go_enter Tryz.func126, Tryz.ntmps126
  go_wp2_with fail
  refine H.out.mono ?_
  rintro e w1 ⟨rfl, hc, hg⟩
  have HC := Lib.hid hc
  have HG := Lib.hid hg
  clear hc hg
  go_wp2
  go_ret
  exact ⟨rfl, HC.out, HG.out⟩
def numS (s : ByteArray) (σ : Cst) : Int × Cst := ((tkS 0 s σ).1.1, failS ((tkS 0 s σ).1.1 == 0) 5 (tkS 0 s σ).2)
set_option maxRecDepth 100000 in
theorem cnum_any (cb rb : Nat) (s : ByteArray) (σ : Cst) (w : World) (h : CurIs w cb rb s σ) :
    Calls Tryz.prog 129 #[.pointer (some ⟨cb, 0, none⟩)] w (CurR (.int .u64 (numS s σ).1) (numS s σ).2 cb rb s w) := by
  have h1 := ctake_any cb rb s σ 0 w h (by decide)
  clear h
  unfold numS
  generalize tkS 0 s σ = z at h1 ⊢
  obtain ⟨⟨n, t⟩, σ1⟩ := z
  have H := Lib.hid h1
  clear h1
  go_enter Tryz.func129, Tryz.ntmps129
  go_wp2_with fail
  refine H.out.mono ?_
  rintro e w1 ⟨rfl, hc, hg⟩
  have HG := Lib.hid hg
  have HF := Lib.hid (fail_any cb rb s σ1 (n == 0) 5 w1 hc (by decide))
  clear hc hg
  go_wp2_with fail
  refine HF.out.mono ?_
  rintro e w2 ⟨rfl, hc, hg⟩
  have HC := Lib.hid hc
  have HG2 := Lib.hid hg
  clear hc hg
  go_wp2
  go_ret
  exact ⟨rfl, HC.out, HG.out.trans HG2.out⟩
def digS (s : ByteArray) (σ : Cst) : ByteArray × Cst := ((tkS 1 s σ).1.2, failS (!decide ((tkS 1 s σ).1.2.size = 32)) 5 (tkS 1 s σ).2)
theorem tkS_sz {sort : Nat} {s : ByteArray} {σ : Cst} (h5 : sort < 5) : (tkS sort s σ).1.2.size ≤ s.size := by
  cases σ with
  | error f => exact Nat.zero_le _
  | ok a =>
    cases h : tkR sort s a with
    | error f => simp only [tkS, h]; exact Nat.zero_le _
    | ok x => simp only [tkS, h]; exact (tkR_bd h5 h).2.2.2.2
set_option maxRecDepth 100000 in
theorem cdig_any (cb rb : Nat) (s : ByteArray) (σ : Cst) (w : World) (h : CurIs w cb rb s σ) :
    Calls Tryz.prog 130 #[.pointer (some ⟨cb, 0, none⟩)] w (CurR (.string (digS s σ).1) (digS s σ).2 cb rb s w) := by
  have h1 := ctake_any cb rb s σ 1 w h (by decide)
  have hsz : (tkS 1 s σ).1.2.size ≤ 9223372036854775807 := Nat.le_trans (tkS_sz (by decide)) h.sz2
  clear h
  unfold digS
  generalize tkS 1 s σ = z at h1 hsz ⊢
  obtain ⟨⟨n, t⟩, σ1⟩ := z
  have H := Lib.hid h1
  clear h1
  go_enter Tryz.func130, Tryz.ntmps130
  go_wp2_with fail
  refine H.out.mono ?_
  rintro e w1 ⟨rfl, hc, hg⟩
  have HG := Lib.hid hg
  have HC1 := Lib.hid hc
  clear hc hg
  go_wp2_with fail
  refine (rdigest_any t w1 hsz).mono ?_
  rintro e w2 ⟨rfl, hb⟩
  have HG1 := Lib.hid (HG.out.next hb)
  have HF := Lib.hid (fail_any cb rb s σ1 (!decide (t.size = 32)) 5 w2 (HC1.out.below hb) (by decide))
  clear hb
  go_wp2_with fail
  refine HF.out.mono ?_
  rintro e w3 ⟨rfl, hc, hg⟩
  have HC := Lib.hid hc
  have HG2 := Lib.hid hg
  clear hc hg
  go_wp2
  go_ret
  exact ⟨rfl, HC.out, HG1.out.trans HG2.out⟩
end Go.Proofs.YtihiaopilnjonaaGreatDoor
namespace Go.Proofs.YtihiaopilnjonaaGreatDoor
open Go.RowKit
set_option linter.unusedSimpArgs false
set_option linter.unusedVariables false
def isKey (all k : ByteArray) (n : Nat) : Bool := (List.range n).any fun i => (all.extract i (i + 1)).toList == k.toList
theorem isKey_succ (all k : ByteArray) (n : Nat) : isKey all k (n + 1) = (isKey all k n || (all.extract n (n + 1)).toList == k.toList) := by
  unfold isKey
  rw [List.range_succ, List.any_append]; simp
def leB (a b : ByteArray) : Bool := Op.bytesLess a.toList b.toList || a.toList == b.toList
def keyS (s all last : ByteArray) (σ : Cst) : ByteArray × Cst := ((tkS 2 s σ).1.2, failS (!isKey all (tkS 2 s σ).1.2 all.size || leB (tkS 2 s σ).1.2 last) 5 (tkS 2 s σ).2)
set_option maxRecDepth 100000 in
set_option maxHeartbeats 4000000 in
theorem ckey_any (cb rb : Nat) (s all last : ByteArray) (σ : Cst) (w : World) (h : CurIs w cb rb s σ) (ha : all.size ≤ 1000) :
    Calls Tryz.prog 128 #[.pointer (some ⟨cb, 0, none⟩), .string all, .string last] w (CurR (.string (keyS s all last σ).1) (keyS s all last σ).2 cb rb s w) := by
  have h1 := ctake_any cb rb s σ 2 w h (by decide)
  clear h
  unfold keyS
  generalize tkS 2 s σ = z at h1 ⊢
  obtain ⟨⟨n, k⟩, σ1⟩ := z
  have H := Lib.hid h1
  clear h1
  go_enter Tryz.func128, Tryz.ntmps128
  go_wp2_with fail
  refine H.out.mono ?_
  rintro e w1 ⟨rfl, hc, hg⟩
  have HC := Lib.hid hc
  have HG := Lib.hid hg
  clear hc hg
  go_wp2
  go_loopg [9, 10] all.size (fun gg is i wr => ∃ m : Nat, gg + m = all.size ∧ i = .int .i64 m ∧ is = .bool (isKey all k m) ∧ wr = w1)
  case atStart => exact ⟨0, by omega, rfl, rfl, rfl⟩
  case round =>
    obtain ⟨m, hm, rfl, rfl, rfl⟩ := hrel
    by_cases hlt : m < all.size
    · obtain ⟨g', rfl⟩ : ∃ g', gk = g' + 1 := ⟨gk - 1, by omega⟩
      have i1 : (m : Int) < all.size := by omega
      have i2 : IntKind.i64.wrap ((m : Int) + 1) = (m : Int) + 1 := IntWalk.i64_in _ (by omega)
      have i3 : (0 : Int) ≤ m := by omega
      have i4 : (m : Int) ≤ (m : Int) + 1 := by omega
      have i5 : (m : Int) + 1 ≤ all.size := by omega
      have i6 : ((m : Int) + 1).toNat = m + 1 := by omega
      cases hk : isKey all k m with
      | true =>
        have HK : Hid (true = isKey all k (m + 1)) := Lib.hid (by rw [isKey_succ, hk]; rfl)
        clear hk
        go_wp2
        go_roundg g'
        case rel => exact ⟨m + 1, by omega, by go_num, by rw [HK.out], rfl⟩
        case measure => omega
      | false =>
        have HK : Hid (((all.extract m (m + 1)).toList == k.toList) = isKey all k (m + 1)) := Lib.hid (by rw [isKey_succ, hk]; rfl)
        clear hk
        go_wp2
        go_roundg g'
        case rel => exact ⟨m + 1, by omega, by go_num, by rw [HK.out], rfl⟩
        case measure => omega
    · obtain rfl : m = all.size := by omega
      have i1 : ¬ ((all.size : Nat) : Int) < all.size := by omega
      cases hk : isKey all k all.size with
      | true =>
        have HF := Lib.hid (fail_any cb rb s σ1 (leB k last) 5 wr HC.out (by decide))
        have HE : Hid (failS (!isKey all k all.size || leB k last) 5 σ1 = failS (leB k last) 5 σ1) := Lib.hid (by rw [hk]; rfl)
        clear hk
        go_wp2_with fail
        refine HF.out.mono ?_
        rintro e w3 ⟨rfl, hc, hg⟩
        have HC3 := Lib.hid hc
        have HG3 := Lib.hid (HG.out.trans hg)
        clear hc hg
        go_wp2
        go_ret
        rw [HE.out]
        exact ⟨rfl, HC3.out, HG3.out⟩
      | false =>
        have HF := Lib.hid (fail_any cb rb s σ1 true 5 wr HC.out (by decide))
        have HE : Hid (failS (!isKey all k all.size || leB k last) 5 σ1 = failS true 5 σ1) := Lib.hid (by rw [hk]; rfl)
        clear hk
        go_wp2_with fail
        refine HF.out.mono ?_
        rintro e w3 ⟨rfl, hc, hg⟩
        have HC3 := Lib.hid hc
        have HG3 := Lib.hid (HG.out.trans hg)
        clear hc hg
        go_wp2
        go_ret
        rw [HE.out]
        exact ⟨rfl, HC3.out, HG3.out⟩
end Go.Proofs.YtihiaopilnjonaaGreatDoor
namespace Go.Proofs.YtihiaopilnjonaaGreatDoor
open Go.RowKit
set_option linter.unusedSimpArgs false
set_option linter.unusedVariables false
abbrev RStep := Rcd → Cst → Rcd × Cst
def sw : List (UInt8 × RStep) → ByteArray → RStep
  | [], _, x, σ => (x, σ)
  | p :: r, k, x, σ => if k.toList == [p.1] then p.2 x σ else sw r k x σ
def rLoop (s all : ByteArray) (specs : List (UInt8 × RStep)) : Nat → ByteArray → Rcd → Cst → Rcd × Cst
  | 0, _, x, σ => (x, σ)
  | n + 1, last, x, .error f => (x, .error f)
  | n + 1, last, x, .ok a => rLoop s all specs n (keyS s all last (.ok a)).1 (sw specs (keyS s all last (.ok a)).1 x (keyS s all last (.ok a)).2).1 (sw specs (keyS s all last (.ok a)).1 x (keyS s all last (.ok a)).2).2
theorem rLoop_bad (s all : ByteArray) (specs : List (UInt8 × RStep)) (x : Rcd) (f : Flt) : ∀ (n : Nat) (last : ByteArray), rLoop s all specs n last x (.error f) = (x, .error f)
  | 0, _ => rfl
  | n + 1, _ => rfl
def objS (s all : ByteArray) (specs : List (UInt8 × RStep)) (x0 : Rcd) (σ : Cst) : Rcd × Cst := rLoop s all specs (pairsS s σ).1.toNat ⟨#[]⟩ x0 (pairsS s σ).2
theorem pairsS_bd {s : ByteArray} {σ : Cst} : 0 ≤ (pairsS s σ).1 ∧ (pairsS s σ).1 ≤ 10240 := by
  unfold pairsS
  cases σ with
  | error f => exact ⟨Int.le_refl 0, show (0 : Int) ≤ 10240 by decide⟩
  | ok a =>
    cases h : tkR 4 s a with
    | error f => simp only [tkS, h]; exact ⟨by decide, by decide⟩
    | ok x => simp only [tkS, h]; have := tkR_bd (by decide) h; exact ⟨this.2.1, this.2.2.1 (by decide)⟩
theorem HoldsD.keep2 {rb tb : Nat} {w w' : World} {v : Value} {d : DV} (h : HoldsD rb tb w v d) (hu : ∀ b, rb < b → tb < b → b < w.heap.size → w'.heap[b]? = w.heap[b]?) : HoldsD rb tb w' v d := by
  have kt : ∀ {a : Option Addr} {l : List ByteArray}, Tx w a l → Off rb tb a → Tx w' a l := fun h ho => h.keep fun b off cs e h2 => hu b (ho b off e).1 (ho b off e).2 (lt_of_block h2)
  cases d with
  | num n => exact h
  | flag q => exact h
  | str s => exact h
  | strs l => obtain ⟨a, c, h1, h2, h3, h4⟩ := h; exact ⟨a, c, h1, h2, h3, kt h4 h3⟩
  | nums l => obtain ⟨a, c, h1, h2, h3, h4⟩ := h; exact ⟨a, c, h1, h2, h3, h4.keep fun b off cs e h5 => hu b (h3 b off e).1 (h3 b off e).2 (lt_of_block h5)⟩
  | revs l =>
    obtain ⟨a, c, h1, h2, h3, rs, h4, h5, h6⟩ := h
    refine ⟨a, c, h1, h2, h3, rs, h4, fun i hi => ?_, fun i hi => ?_⟩
    · obtain ⟨b, off, rfl, hc⟩ := h5 i hi
      have e : ∀ q, w'.cell? ⟨b, q, none⟩ = w.cell? ⟨b, q, none⟩ := fun q => World.cell?_of_block (w := w) (hu b (h3 b off rfl).1 (h3 b off rfl).2 (lt_of_cell hc.c0))
      obtain ⟨c0, c1, c2, c3, c4, c5, c6, c7, c8, c9, c10⟩ := hc
      exact ⟨b, off, rfl, by constructor <;> (rw [e]; assumption)⟩
    · have h := h6 i hi
      exact ⟨h.pos, h.L, h.signed, h.idx, h.wn, kt h.ws h.wo, h.wo, h.pn, kt h.ps h.po, h.po, h.root, h.wt, h.first, h.life, h.keys⟩
theorem RecAt.cur {rb cb tb : Nat} {T : TypeId} {n : Nat} {w w' : World} {x : Rcd} (h : RecAt rb tb T n w x) (hc : Chg rb cb w w') (h1 : cb < tb) (h2 : rb < tb) : RecAt rb tb T n w' x := by
  obtain ⟨cs, h3, h4, h5⟩ := h
  refine ⟨cs, (hc.block tb (lt_of_block h3) (by omega) (by omega)).trans h3, h4, fun i hi => ?_⟩
  obtain ⟨v, h6, h7⟩ := h5 i hi
  exact ⟨v, h6, h7.keep2 (fun b hb1 hb2 hb3 => hc.block b hb3 (by omega) (by omega))⟩
theorem CurIs.keep {w w' : World} {cb rb : Nat} {s : ByteArray} {σ : Cst} (h : CurIs w cb rb s σ) (h1 : w'.heap[cb]? = w.heap[cb]?) (h2 : w'.heap[rb]? = w.heap[rb]?) : CurIs w' cb rb s σ := by
  refine ⟨h1.trans h.c, h.ne, h.sz, ?_⟩
  have hst := h.st
  cases σ with
  | ok a => exact ⟨h2.trans hst.1, hst.2⟩
  | error f => obtain ⟨h3, a, h4, h5⟩ := hst; exact ⟨h3, a, h2.trans h4, h5⟩
theorem CurIs.setOff {w : World} {cb rb b o : Nat} {s : ByteArray} {σ : Cst} (h : CurIs w cb rb s σ) (h1 : cb < b) (h2 : rb < b) (v : Value) : CurIs (w.setCell ⟨b, o, none⟩ v) cb rb s σ :=
  h.keep (Below.heap_setCell _ _ _ _ (show cb ≠ b by omega)) (Below.heap_setCell _ _ _ _ (show rb ≠ b by omega))
theorem CurIs.clt {w : World} {cb rb : Nat} {s : ByteArray} {σ : Cst} (h : CurIs w cb rb s σ) : cb < w.heap.size := lt_of_block h.c
theorem CurIs.rlt {w : World} {cb rb : Nat} {s : ByteArray} {σ : Cst} (h : CurIs w cb rb s σ) : rb < w.heap.size := by obtain ⟨a, h2, -⟩ := h.rd; exact lt_of_block h2
end Go.Proofs.YtihiaopilnjonaaGreatDoor
namespace Go.Proofs.YtihiaopilnjonaaGreatDoor
open Go.RowKit
set_option linter.unusedSimpArgs false
set_option linter.unusedVariables false
structure StepOk (x0 : Rcd) (g : GSpec) (f : RStep) : Prop where
  good : ∀ x a, fresh x0 g x → match g.read x a with
    | .error e => (f x (.ok a)).2 = .error e
    | .ok y => if g.empty y.1 = true then (f x (.ok a)).2 = .error (5, 0) else f x (.ok a) = (y.1, .ok y.2)
  bad : ∀ x e, (f x (.error e)).2 = .error e
theorem num_step {x0 : Rcd} (s key : ByteArray) (o : Nat) : StepOk x0 (gnum s key o) (fun x σ => (upd x o (.num (numS s σ).1), (numS s σ).2)) := by
  refine ⟨fun x a hf => ?_, fun x e => rfl⟩
  cases h : tkR 0 s a with
  | error e =>
    have h1 : (gnum s key o).read x a = .error e := by simp only [gnum, rnum, h]
    rw [h1]
    simp only [numS, tkS, h, failS]
  | ok y =>
    have h1 : (gnum s key o).read x a = .ok (upd x o (.num y.1), y.2.2) := by simp only [gnum, rnum, h]
    rw [h1]
    simp only [gnum, upd_at, zeroD, numS, tkS, h, failS]
    by_cases hz : (y.1 == 0) = true
    · rw [if_pos hz, if_pos hz]
    · rw [if_neg hz, if_neg hz]
theorem dig_step {x0 : Rcd} (s key : ByteArray) (o : Nat) : StepOk x0 (gdig s key o) (fun x σ => (upd x o (.str (digS s σ).1), (digS s σ).2)) := by
  refine ⟨fun x a hf => ?_, fun x e => rfl⟩
  cases h : tkR 1 s a with
  | error e =>
    have h1 : (gdig s key o).read x a = .error e := by simp only [gdig, rdig, h]
    rw [h1]
    simp only [digS, tkS, h, failS]
  | ok y =>
    by_cases hz : y.2.1.size = 32
    · have h1 : (gdig s key o).read x a = .ok (upd x o (.str y.2.1), y.2.2) := by simp only [gdig, rdig, h, hz, if_true]
      rw [h1]
      simp only [gdig, digS, tkS, h, failS, hz, decide_true, Bool.not_true, Bool.false_eq_true, if_false]
    · have h1 : (gdig s key o).read x a = .error (5, 0) := by simp only [gdig, rdig, h, hz, if_false]
      rw [h1]
      simp only [digS, tkS, h, failS, hz, decide_false, Bool.not_false, if_true]
def rth (l : List (UInt8 × RStep)) (i : Nat) : UInt8 × RStep := l.getD i (0, fun x σ => (x, σ))
theorem rth_eq (l : List (UInt8 × RStep)) (i : Nat) (h : i < l.length) : rth l i = l[i] := by unfold rth; rw [List.getD_eq_getElem?_getD, List.getElem?_eq_getElem h]; rfl
structure SpecsOk (x0 : Rcd) (all : ByteArray) (specs : List (UInt8 × RStep)) (gs : List GSpec) : Prop where
  len : specs.length = gs.length
  keys : ∀ i, i < gs.length → (gth gs i).key.toList = [(rth specs i).1]
  all : ∀ k : ByteArray, isKey all k all.size = true ↔ ∃ i, i < gs.length ∧ k.toList = [(rth specs i).1]
  rise : ∀ i j, i < j → j < gs.length → (rth specs i).1 < (rth specs j).1
  steps : ∀ i, i < gs.length → StepOk x0 (gth gs i) (rth specs i).2
theorem sw_none : ∀ {l : List (UInt8 × RStep)} {k : ByteArray} {x : Rcd} {σ : Cst}, (∀ i, i < l.length → k.toList ≠ [(rth l i).1]) → sw l k x σ = (x, σ)
  | [], k, x, σ, h => rfl
  | p :: r, k, x, σ, h => by
    have h0 := h 0 (by simp)
    have h1 : (k.toList == [p.1]) = false := by simpa [rth] using h0
    rw [sw, h1]
    exact sw_none fun i hi => h (i + 1) (by simpa using hi)
theorem sw_some : ∀ {l : List (UInt8 × RStep)} {k : ByteArray} {x : Rcd} {σ : Cst} {i : Nat}, i < l.length → k.toList = [(rth l i).1] → (∀ j, j < i → (rth l j).1 ≠ (rth l i).1) → sw l k x σ = (rth l i).2 x σ
  | p :: r, k, x, σ, 0, hi, hk, hn => by
    have h1 : (k.toList == [p.1]) = true := by simpa [rth] using hk
    rw [sw, h1]; rfl
  | p :: r, k, x, σ, i + 1, hi, hk, hn => by
    have h0 := hn 0 (by omega)
    have h1 : (k.toList == [p.1]) = false := by
      rw [hk]
      have : (rth (p :: r) (i + 1)).1 ≠ p.1 := fun e => h0 e.symm
      simpa using this
    rw [sw, h1]
    exact sw_some (i := i) (by simpa using hi) hk (fun j hj => hn (j + 1) (by omega))
def LastIs (specs : List (UInt8 × RStep)) (fr : Nat) (last : ByteArray) : Prop := last.toList = if fr = 0 then [] else [(rth specs (fr - 1)).1]
theorem keyS_err {s all last : ByteArray} {a : Nat} {e : Flt} (h : tkR 2 s a = .error e) : (keyS s all last (.ok a)).1 = ⟨#[]⟩ ∧ (keyS s all last (.ok a)).2 = .error e := by
  unfold keyS
  simp only [tkS, h]
  first | exact ⟨rfl, rfl⟩ | exact ⟨trivial, rfl⟩ | rfl
theorem keyS_ok {s all last : ByteArray} {a : Nat} {z : Int × ByteArray × Nat} (h : tkR 2 s a = .ok z) : (keyS s all last (.ok a)).1 = z.2.1 ∧ (keyS s all last (.ok a)).2 = if (!isKey all z.2.1 all.size || leB z.2.1 last) = true then .error (5, 0) else .ok z.2.2 := by
  unfold keyS
  simp only [tkS, h]
  first | exact ⟨rfl, rfl⟩ | exact ⟨trivial, rfl⟩ | rfl
theorem bl_one (a b : UInt8) : Op.bytesLess [a] [b] = decide (a < b) := by simp [Op.bytesLess]
theorem leB_one {k last : ByteArray} {a b : UInt8} (h1 : k.toList = [a]) (h2 : last.toList = [b]) : leB k last = decide (a ≤ b) := by
  unfold leB
  rw [h1, h2, bl_one]
  by_cases h : a < b
  · simp [h, UInt8.le_of_lt h]
  · by_cases e : a = b
    · subst e; simp
    · have : ¬ a ≤ b := fun h' => by rcases UInt8.lt_or_eq_of_le h' with h'' | h'' <;> contradiction
      simp [h, e, this]
theorem leB_nil {k last : ByteArray} {a : UInt8} (h1 : k.toList = [a]) (h2 : last.toList = []) : leB k last = false := by
  unfold leB; rw [h1, h2]; rfl
section
variable {x0 : Rcd} {s all : ByteArray} {specs : List (UInt8 × RStep)} {gs : List GSpec}
theorem SpecsOk.inj (h : SpecsOk x0 all specs gs) {i j : Nat} (hi : i < gs.length) (hj : j < gs.length) (e : (rth specs i).1 = (rth specs j).1) : i = j := by
  rcases Nat.lt_trichotomy i j with h1 | h1 | h1
  · have := h.rise i j h1 hj; rw [e] at this; exact absurd this (UInt8.lt_irrefl _)
  · exact h1
  · have := h.rise j i h1 hi; rw [e] at this; exact absurd this (UInt8.lt_irrefl _)
theorem keyIdx_at (h : SpecsOk x0 all specs gs) (hk : KeysOk gs) {fr i : Nat} {k : ByteArray} (hi : i < gs.length) (hfr : fr ≤ i) (e : k.toList = [(rth specs i).1]) : keyIdx gs fr k = some (i - fr) := by
  have hi' : fr + (i - fr) = i := by omega
  refine keyIdx_some (by omega) (by rw [hi', h.keys i hi, e]; simp) fun j hj => ?_
  rw [h.keys (fr + j) (by omega), e]
  have : (rth specs (fr + j)).1 ≠ (rth specs i).1 := fun e2 => by have := h.inj (by omega) hi e2; omega
  simpa using this
theorem keyIdx_not (h : SpecsOk x0 all specs gs) {fr : Nat} {k : ByteArray} (hn : ∀ i, fr ≤ i → i < gs.length → k.toList ≠ [(rth specs i).1]) : keyIdx gs fr k = none :=
  keyIdx_none fun i hi => by
    rw [h.keys (fr + i) (by omega)]
    have := hn (fr + i) (by omega) (by omega)
    simpa using fun e => this e.symm
theorem loop_same (h : SpecsOk x0 all specs gs) (hk : KeysOk gs) (hd : Disj gs) (hf : ∀ g ∈ gs, g.Frames) : ∀ (n fr : Nat) (last : ByteArray) (x : Rcd) (seen : List Nat) (a : Nat), fr ≤ gs.length → LastIs specs fr last → (∀ i, fr ≤ i → i < gs.length → fresh x0 (gth gs i) x) →
    match objLoop s gs n fr x seen a with
    | .error e => (rLoop s all specs n last x (.ok a)).2 = .error e
    | .ok y => rLoop s all specs n last x (.ok a) = (y.1, .ok y.2.2)
  | 0, fr, last, x, seen, a, hfr, hl, hfs => rfl
  | n + 1, fr, last, x, seen, a, hfr, hl, hfs => by
    have hlen := h.len
    rw [rLoop]
    cases hz : tkR 2 s a with
    | error e =>
      obtain ⟨e1, e2⟩ := keyS_err (all := all) (last := last) hz
      have e3 : objLoop s gs (n + 1) fr x seen a = .error e := by rw [objLoop, hz]
      have e4 : ∀ σ, sw specs (⟨#[]⟩ : ByteArray) x σ = (x, σ) := fun σ => sw_none fun i hi hh => by simp [ByteArray.toList_eq] at hh
      rw [e3, e1, e2, e4]
      show (rLoop s all specs n ⟨#[]⟩ x (.error e)).2 = .error e
      rw [rLoop_bad]
    | ok z =>
      obtain ⟨e1, e2⟩ := keyS_ok (all := all) (last := last) hz
      rw [e1, e2]
      by_cases hex : ∃ i, i < gs.length ∧ z.2.1.toList = [(rth specs i).1]
      · obtain ⟨i, hi, hki⟩ := hex
        have hia : isKey all z.2.1 all.size = true := (h.all z.2.1).2 ⟨i, hi, hki⟩
        have hsw : ∀ σ, sw specs z.2.1 x σ = (rth specs i).2 x σ := fun σ => sw_some (by omega) hki (fun j hj e => by have := h.inj (by omega) hi e; omega)
        have hst := h.steps i hi
        by_cases hle : fr ≤ i
        · have hlb : leB z.2.1 last = false := by
            unfold LastIs at hl
            by_cases h0 : fr = 0
            · rw [if_pos h0] at hl; exact leB_nil hki hl
            · rw [if_neg h0] at hl
              rw [leB_one hki hl]
              have := h.rise (fr - 1) i (by omega) hi
              rw [decide_eq_false_iff_not]
              exact fun h' => absurd (UInt8.lt_of_lt_of_le this h') (UInt8.lt_irrefl _)
          have hki2 := keyIdx_at h hk hi hle hki
          have hfi : fr + (i - fr) = i := by omega
          rw [hia, hlb]
          simp only [Bool.not_true, Bool.or_self, Bool.false_eq_true, if_false]
          rw [hsw]
          have hg := hst.good x z.2.2 (hfs i hle hi)
          cases hr : (gth gs i).read x z.2.2 with
          | error e =>
            rw [hr] at hg
            have e3 : objLoop s gs (n + 1) fr x seen a = .error e := objLoop_err hz hki2 (by rw [hfi]; exact hr)
            rw [e3]
            show (rLoop s all specs n z.2.1 ((rth specs i).2 x (.ok z.2.2)).1 ((rth specs i).2 x (.ok z.2.2)).2).2 = .error e
            have hg' : ((rth specs i).2 x (.ok z.2.2)).2 = .error e := hg
            rw [hg', rLoop_bad]
          | ok y =>
            rw [hr] at hg
            by_cases hem : (gth gs i).empty y.1 = true
            · have e3 : objLoop s gs (n + 1) fr x seen a = .error (5, 0) := objLoop_empty hz hki2 (by rw [hfi]; exact hr) (by rw [hfi]; exact hem)
              rw [e3]
              have hg' : ((rth specs i).2 x (.ok z.2.2)).2 = .error (5, 0) := by simpa [hem] using hg
              show (rLoop s all specs n z.2.1 ((rth specs i).2 x (.ok z.2.2)).1 ((rth specs i).2 x (.ok z.2.2)).2).2 = .error (5, 0)
              rw [hg', rLoop_bad]
            · have hem' : (gth gs i).empty y.1 = false := by simpa using hem
              have hg' : (rth specs i).2 x (.ok z.2.2) = (y.1, .ok y.2) := by simpa [hem'] using hg
              have e3 : objLoop s gs (n + 1) fr x seen a = objLoop s gs n (i + 1) y.1 (i :: seen) y.2 := by
                have := objLoop_next (seen := seen) (g := n) hz hki2 (by rw [hfi]; exact hr) (by rw [hfi]; exact hem')
                rw [hfi] at this; exact this
              rw [e3, hg']
              refine loop_same h hk hd hf n (i + 1) z.2.1 y.1 (i :: seen) y.2 (by omega) ?_ fun j hj1 hj2 o ho => ?_
              · unfold LastIs; rw [if_neg (by omega), hki]; rfl
              · have hfr2 := hf (gth gs i) (by rw [gth_eq gs i hi]; exact List.getElem_mem _) x z.2.2 y hr o (fun hin => hd j i hj2 hi (by omega) o ho hin)
                rw [hfr2]
                exact hfs j (by omega) hj2 o ho
        · have hlb : leB z.2.1 last = true := by
            unfold LastIs at hl
            rw [if_neg (by omega)] at hl
            rw [leB_one hki hl, decide_eq_true_iff]
            by_cases e : i = fr - 1
            · rw [← e]; exact UInt8.le_refl _
            · exact UInt8.le_of_lt (h.rise i (fr - 1) (by omega) (by omega))
          have hki2 : keyIdx gs fr z.2.1 = none := keyIdx_not h fun j hj1 hj2 e => by
            rw [hki] at e
            have := h.inj hi hj2 (by simpa using e)
            omega
          have e3 : objLoop s gs (n + 1) fr x seen a = .error (5, 0) := objLoop_no hz hki2
          rw [e3, hlb]
          simp only [Bool.or_true, if_true]
          rw [hsw]
          show (rLoop s all specs n z.2.1 ((rth specs i).2 x (.error (5, 0))).1 ((rth specs i).2 x (.error (5, 0))).2).2 = .error (5, 0)
          rw [hst.bad, rLoop_bad]
      · have hia : isKey all z.2.1 all.size = false := by
          cases hh : isKey all z.2.1 all.size with
          | false => rfl
          | true => exact absurd ((h.all z.2.1).1 hh) hex
        have hsw : ∀ σ, sw specs z.2.1 x σ = (x, σ) := fun σ => sw_none fun i hi e => hex ⟨i, by omega, e⟩
        have hki2 : keyIdx gs fr z.2.1 = none := keyIdx_not h fun j hj1 hj2 e => hex ⟨j, hj2, e⟩
        have e3 : objLoop s gs (n + 1) fr x seen a = .error (5, 0) := objLoop_no hz hki2
        rw [e3, hia]
        simp only [Bool.not_false, Bool.true_or, if_true]
        rw [hsw]
        show (rLoop s all specs n z.2.1 x (.error (5, 0))).2 = .error (5, 0)
        rw [rLoop_bad]
end
end Go.Proofs.YtihiaopilnjonaaGreatDoor
namespace Go.Proofs.YtihiaopilnjonaaGreatDoor
open Go.RowKit
set_option linter.unusedSimpArgs false
set_option linter.unusedVariables false
def numStep (s : ByteArray) (o : Nat) : RStep := fun x σ => (upd x o (.num (numS s σ).1), (numS s σ).2)
def digStep (s : ByteArray) (o : Nat) : RStep := fun x σ => (upd x o (.str (digS s σ).1), (digS s σ).2)
def msgQs (s : ByteArray) : List (UInt8 × RStep) := [(102, numStep s 4), (104, digStep s 0), (108, numStep s 5), (110, numStep s 2), (118, digStep s 1), (119, numStep s 3)]
abbrev msgMiss (x : Rcd) : Bool := (x 0).s.toList.isEmpty || (x 1).s.toList.isEmpty
def msgS (s : ByteArray) (σ : Cst) : Rcd × Cst := ((objS s ⟨#[102, 104, 108, 110, 118, 119]⟩ (msgQs s) msg0 σ).1, failS (msgMiss (objS s ⟨#[102, 104, 108, 110, 118, 119]⟩ (msgQs s) msg0 σ).1) 5 (objS s ⟨#[102, 104, 108, 110, 118, 119]⟩ (msgQs s) msg0 σ).2)
set_option maxRecDepth 100000 in
set_option maxHeartbeats 8000000 in
theorem cmsg_any (cb rb : Nat) (s : ByteArray) (σ : Cst) (w : World) (h : CurIs w cb rb s σ) :
    Calls Tryz.prog 88 #[.pointer (some ⟨cb, 0, none⟩)] w (fun e w' => e = .returned (.agg (cellsMsg (msgS s σ).1)) ∧ Kd msg0 (msgS s σ).1 ∧ CurIs w' cb rb s (msgS s σ).2 ∧ Chg rb cb w w') := by
  have hcs := h.clt
  have hrs := h.rlt
  have h1 := fun (w' : World) (hb : Below w.heap.size w w') => cpairs_any cb rb s σ w' (h.below hb)
  have hbd := pairsS_bd (s := s) (σ := σ)
  unfold msgS objS
  generalize pairsS s σ = z at h1 hbd ⊢
  obtain ⟨k0, σ1⟩ := z
  obtain ⟨N, rfl⟩ : ∃ k : Nat, k0 = k := ⟨k0.toNat, by have := hbd.1; simp only at this ⊢; omega⟩
  have hN : N ≤ 10240 := by have := hbd.2; simp only at this; omega
  have H := Lib.hid h1
  clear h1 h hbd
  simp only [Int.toNat_natCast]
  go_enter Tryz.func88, Tryz.ntmps88
  go_upto_region 2 with fail
  obtain ⟨b0, hb0⟩ : ∃ b0, w.heap.size = b0 := ⟨_, rfl⟩
  obtain ⟨V, hV⟩ : ∃ V, (w.alloc (.cells #[.string ⟨#[]⟩, .string ⟨#[]⟩, .int .u64 0, .int .u64 0, .int .u64 0, .int .u64 0] 76)).alloc (.cells #[.string ⟨#[]⟩, .string ⟨#[]⟩, .int .u64 0, .int .u64 0, .int .u64 0, .int .u64 0] 76) = V := ⟨_, rfl⟩
  have HV : Hid (Below w.heap.size w V) := Lib.hid (by rw [← hV]; exact balloc (balloc (Below.refl _ _) _) _)
  have V0 : Hid (V.heap[b0]? = some (.cells #[.string ⟨#[]⟩, .string ⟨#[]⟩, .int .u64 0, .int .u64 0, .int .u64 0, .int .u64 0] 76 (0, 0))) := Lib.hid (by rw [← hV, ← hb0]; exact block_alloc (heap_alloc_new _ _) _)
  have V1 : Hid (V.heap[b0 + 1]? = some (.cells #[.string ⟨#[]⟩, .string ⟨#[]⟩, .int .u64 0, .int .u64 0, .int .u64 0, .int .u64 0] 76 (0, 0))) := Lib.hid (by rw [← hV]; exact alloc_new_at _ (by simp [hb0]))
  have REC : Hid (RecAt rb (b0 + 1) 76 6 V msg0) := Lib.hid (rec_zero V1.out rfl (fun i hi => by
    match i, hi with
    | 0, _ => exact ⟨_, rfl, rfl⟩
    | 1, _ => exact ⟨_, rfl, rfl⟩
    | 2, _ => exact ⟨_, rfl, rfl⟩
    | 3, _ => exact ⟨_, rfl, rfl⟩
    | 4, _ => exact ⟨_, rfl, rfl⟩
    | 5, _ => exact ⟨_, rfl, rfl⟩))
  have HB0 := Lib.hid hb0
  have hcb : cb < b0 := by omega
  have hrb : rb < b0 := by omega
  try rw [hV]
  try simp only [hb0]
  clear hV hb0
  go_wp2_with fail
  refine (H.out V HV.out).mono ?_
  rintro e w1 ⟨rfl, hc, hg⟩
  have HC1 := Lib.hid hc
  have HG1 : Hid (Chg rb cb w w1) := Lib.hid ((Chg.of_below HV.out).trans hg)
  have RES1 : Hid (w1.heap[b0]? = some (.cells #[.string ⟨#[]⟩, .string ⟨#[]⟩, .int .u64 0, .int .u64 0, .int .u64 0, .int .u64 0] 76 (0, 0))) := Lib.hid ((hg.block _ (lt_of_block V0.out) (by omega) (by omega)).trans V0.out)
  have REC1 : Hid (RecAt rb (b0 + 1) 76 6 w1 msg0) := Lib.hid (REC.out.cur hg (by omega) (by omega))
  clear hc hg H V0 V1 REC
  go_wp2
  go_loopg [5, 6] N (fun gg lv i wr => ∃ (m : Nat) (τ : Cst) (x : Rcd) (last : ByteArray), gg + m = N ∧ i = .int .u64 m ∧ lv = .string last ∧ Hid (rLoop s ⟨#[102, 104, 108, 110, 118, 119]⟩ (msgQs s) N ⟨#[]⟩ msg0 σ1 = rLoop s ⟨#[102, 104, 108, 110, 118, 119]⟩ (msgQs s) gg last x τ) ∧ Hid (CurIs wr cb rb s τ) ∧ Hid (Chg rb cb w wr) ∧ Hid (RecAt rb (b0 + 1) 76 6 wr x) ∧ Hid (Kd msg0 x) ∧ Hid (wr.heap[b0]? = some (.cells #[.string ⟨#[]⟩, .string ⟨#[]⟩, .int .u64 0, .int .u64 0, .int .u64 0, .int .u64 0] 76 (0, 0))))
  case atStart => exact ⟨0, σ1, msg0, ⟨#[]⟩, rfl, rfl, rfl, rfl, HC1.out, HG1.out, REC1.out, fun i => rfl, RES1.out⟩
  case round =>
    clear HC1 HG1 RES1 REC1
    obtain ⟨m, τ, x, last, hm, rfl, rfl, HD, HC, HG, REC, HK, RES⟩ := hrel
    by_cases hlt : m < N
    · obtain ⟨g', rfl⟩ : ∃ g', gk = g' + 1 := ⟨gk - 1, by omega⟩
      have i1 : (m : Int) < N := by omega
      have HB := Lib.hid (bad_any cb rb s τ _ HC.out)
      go_wp2_with fail
      refine HB.out.mono ?_
      rintro e w3 ⟨rfl, rfl⟩
      cases τ with
      | error f =>
        simp only [isBad]
        have HE : Hid (rLoop s ⟨#[102, 104, 108, 110, 118, 119]⟩ (msgQs s) N ⟨#[]⟩ msg0 σ1 = (x, .error f)) := Lib.hid (by rw [HD.out, rLoop_bad])
        clear HB HD
        obtain ⟨_, hth, -⟩ := msg_of_rec REC.out HK.out
        have m0 : w3.cell? ⟨b0 + 1, 0, none⟩ = some (.string (x 0).s) := block_cell hth 0
        have m1 : w3.cell? ⟨b0 + 1, 1, none⟩ = some (.string (x 1).s) := block_cell hth 1
        have HF := Lib.hid (fail_any cb rb s (.error f) (msgMiss x) 5 w3 HC.out (by decide))
        clear hth
        cases q0 : (x 0).s.toList.isEmpty with
        | true =>
          have HF : Hid (Calls Tryz.prog 131 #[.pointer (some ⟨cb, 0, none⟩), .bool true, .int .i64 5] w3 (CurR (.tuple #[]) (failS (msgMiss x) 5 _) cb rb s w3)) := Lib.hid (by have h := HF.out; rw [show msgMiss x = true by simp [msgMiss, q0]] at h ⊢; exact h)
          go_wp2_with fail
          refine HF.out.mono ?_
          rintro e w5 ⟨rfl, hc, hg⟩
          have HC5 := Lib.hid hc
          have HG5 := Lib.hid (HG.out.trans hg)
          have RES5 : Hid (w5.heap[b0]? = some (.cells #[.string ⟨#[]⟩, .string ⟨#[]⟩, .int .u64 0, .int .u64 0, .int .u64 0, .int .u64 0] 76 (0, 0))) := Lib.hid ((hg.block _ (lt_of_block RES.out) (by omega) (by omega)).trans RES.out)
          obtain ⟨_, hth, -⟩ := msg_of_rec (REC.out.cur hg (by omega) (by omega)) HK.out
          have k0 : w5.cell? ⟨b0 + 1, 0, none⟩ = some (.string (x 0).s) := block_cell hth 0
          have k1 : w5.cell? ⟨b0 + 1, 1, none⟩ = some (.string (x 1).s) := block_cell hth 1
          have k2 : w5.cell? ⟨b0 + 1, 2, none⟩ = some (.int .u64 (x 2).n) := block_cell hth 2
          have k3 : w5.cell? ⟨b0 + 1, 3, none⟩ = some (.int .u64 (x 3).n) := block_cell hth 3
          have k4 : w5.cell? ⟨b0 + 1, 4, none⟩ = some (.int .u64 (x 4).n) := block_cell hth 4
          have k5 : w5.cell? ⟨b0 + 1, 5, none⟩ = some (.int .u64 (x 5).n) := block_cell hth 5
          have g0 : ∀ o, w5.cell? ⟨b0, o, none⟩ = _ := block_cell RES5.out
          have g1 : ∀ o, w5.frozen? ⟨b0, o, none⟩ = false := block_free RES5.out
          have g2 : b0 < w5.heap.size := lt_of_block RES5.out
          clear hc hg hth m0 m1
          go_wp2
          have hb := (block_setCell (block_setCell (block_setCell (block_setCell (block_setCell (block_setCell RES5.out (o := 0) (.string (x 0).s)) (o := 1) (.string (x 1).s)) (o := 2) (.int .u64 (x 2).n)) (o := 3) (.int .u64 (x 3).n)) (o := 4) (.int .u64 (x 4).n)) (o := 5) (.int .u64 (x 5).n))
          have d : ∀ o, _ = _ := block_cell hb
          refine bodyPost_ret (v := .agg (cellsMsg x)) ?_ rfl ?_
          · simp [results, Tryz.results88, go_sem, d]
          · rw [HE.out]
            exact ⟨rfl, HK.out, (CurIs.setOff (CurIs.setOff (CurIs.setOff (CurIs.setOff (CurIs.setOff (CurIs.setOff HC5.out hcb hrb _) hcb hrb _) hcb hrb _) hcb hrb _) hcb hrb _) hcb hrb _), (Chg.setNew (Chg.setNew (Chg.setNew (Chg.setNew (Chg.setNew (Chg.setNew HG5.out (show w.heap.size ≤ b0 by have := HB0.out; omega) _) (show w.heap.size ≤ b0 by have := HB0.out; omega) _) (show w.heap.size ≤ b0 by have := HB0.out; omega) _) (show w.heap.size ≤ b0 by have := HB0.out; omega) _) (show w.heap.size ≤ b0 by have := HB0.out; omega) _) (show w.heap.size ≤ b0 by have := HB0.out; omega) _)⟩
        | false =>
          cases q1 : (x 1).s.toList.isEmpty with
          | true =>
            have HF : Hid (Calls Tryz.prog 131 #[.pointer (some ⟨cb, 0, none⟩), .bool true, .int .i64 5] w3 (CurR (.tuple #[]) (failS (msgMiss x) 5 _) cb rb s w3)) := Lib.hid (by have h := HF.out; rw [show msgMiss x = true by simp [msgMiss, q0, q1]] at h ⊢; exact h)
            go_wp2_with fail
            refine HF.out.mono ?_
            rintro e w5 ⟨rfl, hc, hg⟩
            have HC5 := Lib.hid hc
            have HG5 := Lib.hid (HG.out.trans hg)
            have RES5 : Hid (w5.heap[b0]? = some (.cells #[.string ⟨#[]⟩, .string ⟨#[]⟩, .int .u64 0, .int .u64 0, .int .u64 0, .int .u64 0] 76 (0, 0))) := Lib.hid ((hg.block _ (lt_of_block RES.out) (by omega) (by omega)).trans RES.out)
            obtain ⟨_, hth, -⟩ := msg_of_rec (REC.out.cur hg (by omega) (by omega)) HK.out
            have k0 : w5.cell? ⟨b0 + 1, 0, none⟩ = some (.string (x 0).s) := block_cell hth 0
            have k1 : w5.cell? ⟨b0 + 1, 1, none⟩ = some (.string (x 1).s) := block_cell hth 1
            have k2 : w5.cell? ⟨b0 + 1, 2, none⟩ = some (.int .u64 (x 2).n) := block_cell hth 2
            have k3 : w5.cell? ⟨b0 + 1, 3, none⟩ = some (.int .u64 (x 3).n) := block_cell hth 3
            have k4 : w5.cell? ⟨b0 + 1, 4, none⟩ = some (.int .u64 (x 4).n) := block_cell hth 4
            have k5 : w5.cell? ⟨b0 + 1, 5, none⟩ = some (.int .u64 (x 5).n) := block_cell hth 5
            have g0 : ∀ o, w5.cell? ⟨b0, o, none⟩ = _ := block_cell RES5.out
            have g1 : ∀ o, w5.frozen? ⟨b0, o, none⟩ = false := block_free RES5.out
            have g2 : b0 < w5.heap.size := lt_of_block RES5.out
            clear hc hg hth m0 m1
            go_wp2
            have hb := (block_setCell (block_setCell (block_setCell (block_setCell (block_setCell (block_setCell RES5.out (o := 0) (.string (x 0).s)) (o := 1) (.string (x 1).s)) (o := 2) (.int .u64 (x 2).n)) (o := 3) (.int .u64 (x 3).n)) (o := 4) (.int .u64 (x 4).n)) (o := 5) (.int .u64 (x 5).n))
            have d : ∀ o, _ = _ := block_cell hb
            refine bodyPost_ret (v := .agg (cellsMsg x)) ?_ rfl ?_
            · simp [results, Tryz.results88, go_sem, d]
            · rw [HE.out]
              exact ⟨rfl, HK.out, (CurIs.setOff (CurIs.setOff (CurIs.setOff (CurIs.setOff (CurIs.setOff (CurIs.setOff HC5.out hcb hrb _) hcb hrb _) hcb hrb _) hcb hrb _) hcb hrb _) hcb hrb _), (Chg.setNew (Chg.setNew (Chg.setNew (Chg.setNew (Chg.setNew (Chg.setNew HG5.out (show w.heap.size ≤ b0 by have := HB0.out; omega) _) (show w.heap.size ≤ b0 by have := HB0.out; omega) _) (show w.heap.size ≤ b0 by have := HB0.out; omega) _) (show w.heap.size ≤ b0 by have := HB0.out; omega) _) (show w.heap.size ≤ b0 by have := HB0.out; omega) _) (show w.heap.size ≤ b0 by have := HB0.out; omega) _)⟩
          | false =>
            have HF : Hid (Calls Tryz.prog 131 #[.pointer (some ⟨cb, 0, none⟩), .bool false, .int .i64 5] w3 (CurR (.tuple #[]) (failS (msgMiss x) 5 _) cb rb s w3)) := Lib.hid (by have h := HF.out; rw [show msgMiss x = false by simp [msgMiss, q0, q1]] at h ⊢; exact h)
            go_wp2_with fail
            refine HF.out.mono ?_
            rintro e w5 ⟨rfl, hc, hg⟩
            have HC5 := Lib.hid hc
            have HG5 := Lib.hid (HG.out.trans hg)
            have RES5 : Hid (w5.heap[b0]? = some (.cells #[.string ⟨#[]⟩, .string ⟨#[]⟩, .int .u64 0, .int .u64 0, .int .u64 0, .int .u64 0] 76 (0, 0))) := Lib.hid ((hg.block _ (lt_of_block RES.out) (by omega) (by omega)).trans RES.out)
            obtain ⟨_, hth, -⟩ := msg_of_rec (REC.out.cur hg (by omega) (by omega)) HK.out
            have k0 : w5.cell? ⟨b0 + 1, 0, none⟩ = some (.string (x 0).s) := block_cell hth 0
            have k1 : w5.cell? ⟨b0 + 1, 1, none⟩ = some (.string (x 1).s) := block_cell hth 1
            have k2 : w5.cell? ⟨b0 + 1, 2, none⟩ = some (.int .u64 (x 2).n) := block_cell hth 2
            have k3 : w5.cell? ⟨b0 + 1, 3, none⟩ = some (.int .u64 (x 3).n) := block_cell hth 3
            have k4 : w5.cell? ⟨b0 + 1, 4, none⟩ = some (.int .u64 (x 4).n) := block_cell hth 4
            have k5 : w5.cell? ⟨b0 + 1, 5, none⟩ = some (.int .u64 (x 5).n) := block_cell hth 5
            have g0 : ∀ o, w5.cell? ⟨b0, o, none⟩ = _ := block_cell RES5.out
            have g1 : ∀ o, w5.frozen? ⟨b0, o, none⟩ = false := block_free RES5.out
            have g2 : b0 < w5.heap.size := lt_of_block RES5.out
            clear hc hg hth m0 m1
            go_wp2
            have hb := (block_setCell (block_setCell (block_setCell (block_setCell (block_setCell (block_setCell RES5.out (o := 0) (.string (x 0).s)) (o := 1) (.string (x 1).s)) (o := 2) (.int .u64 (x 2).n)) (o := 3) (.int .u64 (x 3).n)) (o := 4) (.int .u64 (x 4).n)) (o := 5) (.int .u64 (x 5).n))
            have d : ∀ o, _ = _ := block_cell hb
            refine bodyPost_ret (v := .agg (cellsMsg x)) ?_ rfl ?_
            · simp [results, Tryz.results88, go_sem, d]
            · rw [HE.out]
              exact ⟨rfl, HK.out, (CurIs.setOff (CurIs.setOff (CurIs.setOff (CurIs.setOff (CurIs.setOff (CurIs.setOff HC5.out hcb hrb _) hcb hrb _) hcb hrb _) hcb hrb _) hcb hrb _) hcb hrb _), (Chg.setNew (Chg.setNew (Chg.setNew (Chg.setNew (Chg.setNew (Chg.setNew HG5.out (show w.heap.size ≤ b0 by have := HB0.out; omega) _) (show w.heap.size ≤ b0 by have := HB0.out; omega) _) (show w.heap.size ≤ b0 by have := HB0.out; omega) _) (show w.heap.size ≤ b0 by have := HB0.out; omega) _) (show w.heap.size ≤ b0 by have := HB0.out; omega) _) (show w.heap.size ≤ b0 by have := HB0.out; omega) _)⟩
      | ok a =>
        simp only [isBad]
        have HKY := Lib.hid (ckey_any cb rb s ⟨#[102, 104, 108, 110, 118, 119]⟩ last (.ok a) w3 HC.out (by decide))
        have HE : Hid (rLoop s ⟨#[102, 104, 108, 110, 118, 119]⟩ (msgQs s) N ⟨#[]⟩ msg0 σ1 = rLoop s ⟨#[102, 104, 108, 110, 118, 119]⟩ (msgQs s) g' (keyS s ⟨#[102, 104, 108, 110, 118, 119]⟩ last (.ok a)).1 (sw (msgQs s) (keyS s ⟨#[102, 104, 108, 110, 118, 119]⟩ last (.ok a)).1 x (keyS s ⟨#[102, 104, 108, 110, 118, 119]⟩ last (.ok a)).2).1 (sw (msgQs s) (keyS s ⟨#[102, 104, 108, 110, 118, 119]⟩ last (.ok a)).1 x (keyS s ⟨#[102, 104, 108, 110, 118, 119]⟩ last (.ok a)).2).2) := Lib.hid HD.out
        clear HB HD
        go_wp2_with fail
        refine HKY.out.mono ?_
        rintro e w4 ⟨rfl, hc, hg⟩
        have HC4 := Lib.hid hc
        have HG4 : Hid (Chg rb cb w w4) := Lib.hid (HG.out.trans hg)
        have REC4 := Lib.hid (REC.out.cur hg (by omega) (by omega))
        have RES4 : Hid (w4.heap[b0]? = some (.cells #[.string ⟨#[]⟩, .string ⟨#[]⟩, .int .u64 0, .int .u64 0, .int .u64 0, .int .u64 0] 76 (0, 0))) := Lib.hid ((hg.block _ (lt_of_block RES.out) (by omega) (by omega)).trans RES.out)
        clear hc hg HKY HC HG REC RES
        obtain ⟨key, hkey⟩ : ∃ key, (keyS s ⟨#[102, 104, 108, 110, 118, 119]⟩ last (.ok a)).1 = key := ⟨_, rfl⟩
        obtain ⟨τ1, hτ1⟩ : ∃ τ1, (keyS s ⟨#[102, 104, 108, 110, 118, 119]⟩ last (.ok a)).2 = τ1 := ⟨_, rfl⟩
        have HE : Hid (rLoop s ⟨#[102, 104, 108, 110, 118, 119]⟩ (msgQs s) N ⟨#[]⟩ msg0 σ1 = rLoop s ⟨#[102, 104, 108, 110, 118, 119]⟩ (msgQs s) g' key (sw (msgQs s) key x τ1).1 (sw (msgQs s) key x τ1).2) := Lib.hid (by have := HE.out; rw [hkey, hτ1] at this; exact this)
        have HC4 : Hid (CurIs w4 cb rb s τ1) := Lib.hid (by rw [← hτ1]; exact HC4.out)
        rw [hkey]
        clear hkey hτ1
        cases hq0 : (key.toList == [102]) with
        | true =>
          have es : sw (msgQs s) key x τ1 = (upd x 4 (.num (numS s τ1).1), (numS s τ1).2) := by unfold msgQs; simp only [sw, hq0, if_true, Bool.false_eq_true, if_false]; rfl
          have HE2 : Hid (rLoop s ⟨#[102, 104, 108, 110, 118, 119]⟩ (msgQs s) N ⟨#[]⟩ msg0 σ1 = rLoop s ⟨#[102, 104, 108, 110, 118, 119]⟩ (msgQs s) g' key (upd x 4 (.num (numS s τ1).1)) (numS s τ1).2) := Lib.hid (by rw [HE.out, es])
          have HNM := Lib.hid (cnum_any cb rb s τ1 w4 HC4.out)
          clear es HE
          go_wp2_with fail
          refine HNM.out.mono ?_
          rintro e w5 ⟨rfl, hc, hg⟩
          have HC5 := Lib.hid hc
          have HG5 := Lib.hid (HG4.out.trans hg)
          have hrec := REC4.out.cur hg (by omega) (by omega)
          have REC5 := Lib.hid hrec
          have RES5 : Hid (w5.heap[b0]? = some (.cells #[.string ⟨#[]⟩, .string ⟨#[]⟩, .int .u64 0, .int .u64 0, .int .u64 0, .int .u64 0] 76 (0, 0))) := Lib.hid ((hg.block _ (lt_of_block RES4.out) (by omega) (by omega)).trans RES4.out)
          obtain ⟨u, hu, -⟩ := hrec.get (show 4 < 6 by decide)
          have hfz := hrec.free 4
          clear hc hg hrec
          go_wp2
          go_roundg g'
          case rel => exact ⟨m + 1, _, _, key, by omega, by go_num, rfl, HE2.out, HC5.out.setOff (by omega) (by omega) _, HG5.out.setNew (show w.heap.size ≤ b0 + 1 by have := HB0.out; omega) _, REC5.out.set (show 4 < 6 by decide) rfl, HK.out.upd rfl, Lib.hid (block_setCell_ne RES5.out (show b0 ≠ b0 + 1 by omega) _)⟩
          case measure => omega
        | false =>
          cases hq1 : (key.toList == [104]) with
          | true =>
            have es : sw (msgQs s) key x τ1 = (upd x 0 (.str (digS s τ1).1), (digS s τ1).2) := by unfold msgQs; simp only [sw, hq0, hq1, if_true, Bool.false_eq_true, if_false]; rfl
            have HE2 : Hid (rLoop s ⟨#[102, 104, 108, 110, 118, 119]⟩ (msgQs s) N ⟨#[]⟩ msg0 σ1 = rLoop s ⟨#[102, 104, 108, 110, 118, 119]⟩ (msgQs s) g' key (upd x 0 (.str (digS s τ1).1)) (digS s τ1).2) := Lib.hid (by rw [HE.out, es])
            have HNM := Lib.hid (cdig_any cb rb s τ1 w4 HC4.out)
            clear es HE
            go_wp2_with fail
            refine HNM.out.mono ?_
            rintro e w5 ⟨rfl, hc, hg⟩
            have HC5 := Lib.hid hc
            have HG5 := Lib.hid (HG4.out.trans hg)
            have hrec := REC4.out.cur hg (by omega) (by omega)
            have REC5 := Lib.hid hrec
            have RES5 : Hid (w5.heap[b0]? = some (.cells #[.string ⟨#[]⟩, .string ⟨#[]⟩, .int .u64 0, .int .u64 0, .int .u64 0, .int .u64 0] 76 (0, 0))) := Lib.hid ((hg.block _ (lt_of_block RES4.out) (by omega) (by omega)).trans RES4.out)
            obtain ⟨u, hu, -⟩ := hrec.get (show 0 < 6 by decide)
            have hfz := hrec.free 0
            clear hc hg hrec
            go_wp2
            go_roundg g'
            case rel => exact ⟨m + 1, _, _, key, by omega, by go_num, rfl, HE2.out, HC5.out.setOff (by omega) (by omega) _, HG5.out.setNew (show w.heap.size ≤ b0 + 1 by have := HB0.out; omega) _, REC5.out.set (show 0 < 6 by decide) rfl, HK.out.upd rfl, Lib.hid (block_setCell_ne RES5.out (show b0 ≠ b0 + 1 by omega) _)⟩
            case measure => omega
          | false =>
            cases hq2 : (key.toList == [108]) with
            | true =>
              have es : sw (msgQs s) key x τ1 = (upd x 5 (.num (numS s τ1).1), (numS s τ1).2) := by unfold msgQs; simp only [sw, hq0, hq1, hq2, if_true, Bool.false_eq_true, if_false]; rfl
              have HE2 : Hid (rLoop s ⟨#[102, 104, 108, 110, 118, 119]⟩ (msgQs s) N ⟨#[]⟩ msg0 σ1 = rLoop s ⟨#[102, 104, 108, 110, 118, 119]⟩ (msgQs s) g' key (upd x 5 (.num (numS s τ1).1)) (numS s τ1).2) := Lib.hid (by rw [HE.out, es])
              have HNM := Lib.hid (cnum_any cb rb s τ1 w4 HC4.out)
              clear es HE
              go_wp2_with fail
              refine HNM.out.mono ?_
              rintro e w5 ⟨rfl, hc, hg⟩
              have HC5 := Lib.hid hc
              have HG5 := Lib.hid (HG4.out.trans hg)
              have hrec := REC4.out.cur hg (by omega) (by omega)
              have REC5 := Lib.hid hrec
              have RES5 : Hid (w5.heap[b0]? = some (.cells #[.string ⟨#[]⟩, .string ⟨#[]⟩, .int .u64 0, .int .u64 0, .int .u64 0, .int .u64 0] 76 (0, 0))) := Lib.hid ((hg.block _ (lt_of_block RES4.out) (by omega) (by omega)).trans RES4.out)
              obtain ⟨u, hu, -⟩ := hrec.get (show 5 < 6 by decide)
              have hfz := hrec.free 5
              clear hc hg hrec
              go_wp2
              go_roundg g'
              case rel => exact ⟨m + 1, _, _, key, by omega, by go_num, rfl, HE2.out, HC5.out.setOff (by omega) (by omega) _, HG5.out.setNew (show w.heap.size ≤ b0 + 1 by have := HB0.out; omega) _, REC5.out.set (show 5 < 6 by decide) rfl, HK.out.upd rfl, Lib.hid (block_setCell_ne RES5.out (show b0 ≠ b0 + 1 by omega) _)⟩
              case measure => omega
            | false =>
              cases hq3 : (key.toList == [110]) with
              | true =>
                have es : sw (msgQs s) key x τ1 = (upd x 2 (.num (numS s τ1).1), (numS s τ1).2) := by unfold msgQs; simp only [sw, hq0, hq1, hq2, hq3, if_true, Bool.false_eq_true, if_false]; rfl
                have HE2 : Hid (rLoop s ⟨#[102, 104, 108, 110, 118, 119]⟩ (msgQs s) N ⟨#[]⟩ msg0 σ1 = rLoop s ⟨#[102, 104, 108, 110, 118, 119]⟩ (msgQs s) g' key (upd x 2 (.num (numS s τ1).1)) (numS s τ1).2) := Lib.hid (by rw [HE.out, es])
                have HNM := Lib.hid (cnum_any cb rb s τ1 w4 HC4.out)
                clear es HE
                go_wp2_with fail
                refine HNM.out.mono ?_
                rintro e w5 ⟨rfl, hc, hg⟩
                have HC5 := Lib.hid hc
                have HG5 := Lib.hid (HG4.out.trans hg)
                have hrec := REC4.out.cur hg (by omega) (by omega)
                have REC5 := Lib.hid hrec
                have RES5 : Hid (w5.heap[b0]? = some (.cells #[.string ⟨#[]⟩, .string ⟨#[]⟩, .int .u64 0, .int .u64 0, .int .u64 0, .int .u64 0] 76 (0, 0))) := Lib.hid ((hg.block _ (lt_of_block RES4.out) (by omega) (by omega)).trans RES4.out)
                obtain ⟨u, hu, -⟩ := hrec.get (show 2 < 6 by decide)
                have hfz := hrec.free 2
                clear hc hg hrec
                go_wp2
                go_roundg g'
                case rel => exact ⟨m + 1, _, _, key, by omega, by go_num, rfl, HE2.out, HC5.out.setOff (by omega) (by omega) _, HG5.out.setNew (show w.heap.size ≤ b0 + 1 by have := HB0.out; omega) _, REC5.out.set (show 2 < 6 by decide) rfl, HK.out.upd rfl, Lib.hid (block_setCell_ne RES5.out (show b0 ≠ b0 + 1 by omega) _)⟩
                case measure => omega
              | false =>
                cases hq4 : (key.toList == [118]) with
                | true =>
                  have es : sw (msgQs s) key x τ1 = (upd x 1 (.str (digS s τ1).1), (digS s τ1).2) := by unfold msgQs; simp only [sw, hq0, hq1, hq2, hq3, hq4, if_true, Bool.false_eq_true, if_false]; rfl
                  have HE2 : Hid (rLoop s ⟨#[102, 104, 108, 110, 118, 119]⟩ (msgQs s) N ⟨#[]⟩ msg0 σ1 = rLoop s ⟨#[102, 104, 108, 110, 118, 119]⟩ (msgQs s) g' key (upd x 1 (.str (digS s τ1).1)) (digS s τ1).2) := Lib.hid (by rw [HE.out, es])
                  have HNM := Lib.hid (cdig_any cb rb s τ1 w4 HC4.out)
                  clear es HE
                  go_wp2_with fail
                  refine HNM.out.mono ?_
                  rintro e w5 ⟨rfl, hc, hg⟩
                  have HC5 := Lib.hid hc
                  have HG5 := Lib.hid (HG4.out.trans hg)
                  have hrec := REC4.out.cur hg (by omega) (by omega)
                  have REC5 := Lib.hid hrec
                  have RES5 : Hid (w5.heap[b0]? = some (.cells #[.string ⟨#[]⟩, .string ⟨#[]⟩, .int .u64 0, .int .u64 0, .int .u64 0, .int .u64 0] 76 (0, 0))) := Lib.hid ((hg.block _ (lt_of_block RES4.out) (by omega) (by omega)).trans RES4.out)
                  obtain ⟨u, hu, -⟩ := hrec.get (show 1 < 6 by decide)
                  have hfz := hrec.free 1
                  clear hc hg hrec
                  go_wp2
                  go_roundg g'
                  case rel => exact ⟨m + 1, _, _, key, by omega, by go_num, rfl, HE2.out, HC5.out.setOff (by omega) (by omega) _, HG5.out.setNew (show w.heap.size ≤ b0 + 1 by have := HB0.out; omega) _, REC5.out.set (show 1 < 6 by decide) rfl, HK.out.upd rfl, Lib.hid (block_setCell_ne RES5.out (show b0 ≠ b0 + 1 by omega) _)⟩
                  case measure => omega
                | false =>
                  cases hq5 : (key.toList == [119]) with
                  | true =>
                    have es : sw (msgQs s) key x τ1 = (upd x 3 (.num (numS s τ1).1), (numS s τ1).2) := by unfold msgQs; simp only [sw, hq0, hq1, hq2, hq3, hq4, hq5, if_true, Bool.false_eq_true, if_false]; rfl
                    have HE2 : Hid (rLoop s ⟨#[102, 104, 108, 110, 118, 119]⟩ (msgQs s) N ⟨#[]⟩ msg0 σ1 = rLoop s ⟨#[102, 104, 108, 110, 118, 119]⟩ (msgQs s) g' key (upd x 3 (.num (numS s τ1).1)) (numS s τ1).2) := Lib.hid (by rw [HE.out, es])
                    have HNM := Lib.hid (cnum_any cb rb s τ1 w4 HC4.out)
                    clear es HE
                    go_wp2_with fail
                    refine HNM.out.mono ?_
                    rintro e w5 ⟨rfl, hc, hg⟩
                    have HC5 := Lib.hid hc
                    have HG5 := Lib.hid (HG4.out.trans hg)
                    have hrec := REC4.out.cur hg (by omega) (by omega)
                    have REC5 := Lib.hid hrec
                    have RES5 : Hid (w5.heap[b0]? = some (.cells #[.string ⟨#[]⟩, .string ⟨#[]⟩, .int .u64 0, .int .u64 0, .int .u64 0, .int .u64 0] 76 (0, 0))) := Lib.hid ((hg.block _ (lt_of_block RES4.out) (by omega) (by omega)).trans RES4.out)
                    obtain ⟨u, hu, -⟩ := hrec.get (show 3 < 6 by decide)
                    have hfz := hrec.free 3
                    clear hc hg hrec
                    go_wp2
                    go_roundg g'
                    case rel => exact ⟨m + 1, _, _, key, by omega, by go_num, rfl, HE2.out, HC5.out.setOff (by omega) (by omega) _, HG5.out.setNew (show w.heap.size ≤ b0 + 1 by have := HB0.out; omega) _, REC5.out.set (show 3 < 6 by decide) rfl, HK.out.upd rfl, Lib.hid (block_setCell_ne RES5.out (show b0 ≠ b0 + 1 by omega) _)⟩
                    case measure => omega
                  | false =>
                    have es : sw (msgQs s) key x τ1 = (x, τ1) := by unfold msgQs; simp only [sw, hq0, hq1, hq2, hq3, hq4, hq5, Bool.false_eq_true, if_false]
                    have HE2 : Hid (rLoop s ⟨#[102, 104, 108, 110, 118, 119]⟩ (msgQs s) N ⟨#[]⟩ msg0 σ1 = rLoop s ⟨#[102, 104, 108, 110, 118, 119]⟩ (msgQs s) g' key x τ1) := Lib.hid (by rw [HE.out, es])
                    clear es HE
                    go_wp2
                    go_roundg g'
                    case rel => exact ⟨m + 1, _, _, key, by omega, by go_num, rfl, HE2.out, HC4.out, HG4.out, REC4.out, HK.out, RES4.out⟩
                    case measure => omega
    · obtain rfl : m = N := by omega
      have i1 : ¬ ((m : Nat) : Int) < m := by omega
      obtain rfl : gk = 0 := by omega
      obtain ⟨w3, hw3⟩ : ∃ w3, w3 = wr := ⟨_, rfl⟩
      subst hw3
      have HE : Hid (rLoop s ⟨#[102, 104, 108, 110, 118, 119]⟩ (msgQs s) m ⟨#[]⟩ msg0 σ1 = (x, τ)) := Lib.hid HD.out
      clear HD
      obtain ⟨_, hth, -⟩ := msg_of_rec REC.out HK.out
      have m0 : w3.cell? ⟨b0 + 1, 0, none⟩ = some (.string (x 0).s) := block_cell hth 0
      have m1 : w3.cell? ⟨b0 + 1, 1, none⟩ = some (.string (x 1).s) := block_cell hth 1
      have HF := Lib.hid (fail_any cb rb s τ (msgMiss x) 5 w3 HC.out (by decide))
      clear hth
      cases q0 : (x 0).s.toList.isEmpty with
      | true =>
        have HF : Hid (Calls Tryz.prog 131 #[.pointer (some ⟨cb, 0, none⟩), .bool true, .int .i64 5] w3 (CurR (.tuple #[]) (failS (msgMiss x) 5 _) cb rb s w3)) := Lib.hid (by have h := HF.out; rw [show msgMiss x = true by simp [msgMiss, q0]] at h ⊢; exact h)
        go_wp2_with fail
        refine HF.out.mono ?_
        rintro e w5 ⟨rfl, hc, hg⟩
        have HC5 := Lib.hid hc
        have HG5 := Lib.hid (HG.out.trans hg)
        have RES5 : Hid (w5.heap[b0]? = some (.cells #[.string ⟨#[]⟩, .string ⟨#[]⟩, .int .u64 0, .int .u64 0, .int .u64 0, .int .u64 0] 76 (0, 0))) := Lib.hid ((hg.block _ (lt_of_block RES.out) (by omega) (by omega)).trans RES.out)
        obtain ⟨_, hth, -⟩ := msg_of_rec (REC.out.cur hg (by omega) (by omega)) HK.out
        have k0 : w5.cell? ⟨b0 + 1, 0, none⟩ = some (.string (x 0).s) := block_cell hth 0
        have k1 : w5.cell? ⟨b0 + 1, 1, none⟩ = some (.string (x 1).s) := block_cell hth 1
        have k2 : w5.cell? ⟨b0 + 1, 2, none⟩ = some (.int .u64 (x 2).n) := block_cell hth 2
        have k3 : w5.cell? ⟨b0 + 1, 3, none⟩ = some (.int .u64 (x 3).n) := block_cell hth 3
        have k4 : w5.cell? ⟨b0 + 1, 4, none⟩ = some (.int .u64 (x 4).n) := block_cell hth 4
        have k5 : w5.cell? ⟨b0 + 1, 5, none⟩ = some (.int .u64 (x 5).n) := block_cell hth 5
        have g0 : ∀ o, w5.cell? ⟨b0, o, none⟩ = _ := block_cell RES5.out
        have g1 : ∀ o, w5.frozen? ⟨b0, o, none⟩ = false := block_free RES5.out
        have g2 : b0 < w5.heap.size := lt_of_block RES5.out
        clear hc hg hth m0 m1
        go_wp2
        have hb := (block_setCell (block_setCell (block_setCell (block_setCell (block_setCell (block_setCell RES5.out (o := 0) (.string (x 0).s)) (o := 1) (.string (x 1).s)) (o := 2) (.int .u64 (x 2).n)) (o := 3) (.int .u64 (x 3).n)) (o := 4) (.int .u64 (x 4).n)) (o := 5) (.int .u64 (x 5).n))
        have d : ∀ o, _ = _ := block_cell hb
        refine bodyPost_ret (v := .agg (cellsMsg x)) ?_ rfl ?_
        · simp [results, Tryz.results88, go_sem, d]
        · rw [HE.out]
          exact ⟨rfl, HK.out, (CurIs.setOff (CurIs.setOff (CurIs.setOff (CurIs.setOff (CurIs.setOff (CurIs.setOff HC5.out hcb hrb _) hcb hrb _) hcb hrb _) hcb hrb _) hcb hrb _) hcb hrb _), (Chg.setNew (Chg.setNew (Chg.setNew (Chg.setNew (Chg.setNew (Chg.setNew HG5.out (show w.heap.size ≤ b0 by have := HB0.out; omega) _) (show w.heap.size ≤ b0 by have := HB0.out; omega) _) (show w.heap.size ≤ b0 by have := HB0.out; omega) _) (show w.heap.size ≤ b0 by have := HB0.out; omega) _) (show w.heap.size ≤ b0 by have := HB0.out; omega) _) (show w.heap.size ≤ b0 by have := HB0.out; omega) _)⟩
      | false =>
        cases q1 : (x 1).s.toList.isEmpty with
        | true =>
          have HF : Hid (Calls Tryz.prog 131 #[.pointer (some ⟨cb, 0, none⟩), .bool true, .int .i64 5] w3 (CurR (.tuple #[]) (failS (msgMiss x) 5 _) cb rb s w3)) := Lib.hid (by have h := HF.out; rw [show msgMiss x = true by simp [msgMiss, q0, q1]] at h ⊢; exact h)
          go_wp2_with fail
          refine HF.out.mono ?_
          rintro e w5 ⟨rfl, hc, hg⟩
          have HC5 := Lib.hid hc
          have HG5 := Lib.hid (HG.out.trans hg)
          have RES5 : Hid (w5.heap[b0]? = some (.cells #[.string ⟨#[]⟩, .string ⟨#[]⟩, .int .u64 0, .int .u64 0, .int .u64 0, .int .u64 0] 76 (0, 0))) := Lib.hid ((hg.block _ (lt_of_block RES.out) (by omega) (by omega)).trans RES.out)
          obtain ⟨_, hth, -⟩ := msg_of_rec (REC.out.cur hg (by omega) (by omega)) HK.out
          have k0 : w5.cell? ⟨b0 + 1, 0, none⟩ = some (.string (x 0).s) := block_cell hth 0
          have k1 : w5.cell? ⟨b0 + 1, 1, none⟩ = some (.string (x 1).s) := block_cell hth 1
          have k2 : w5.cell? ⟨b0 + 1, 2, none⟩ = some (.int .u64 (x 2).n) := block_cell hth 2
          have k3 : w5.cell? ⟨b0 + 1, 3, none⟩ = some (.int .u64 (x 3).n) := block_cell hth 3
          have k4 : w5.cell? ⟨b0 + 1, 4, none⟩ = some (.int .u64 (x 4).n) := block_cell hth 4
          have k5 : w5.cell? ⟨b0 + 1, 5, none⟩ = some (.int .u64 (x 5).n) := block_cell hth 5
          have g0 : ∀ o, w5.cell? ⟨b0, o, none⟩ = _ := block_cell RES5.out
          have g1 : ∀ o, w5.frozen? ⟨b0, o, none⟩ = false := block_free RES5.out
          have g2 : b0 < w5.heap.size := lt_of_block RES5.out
          clear hc hg hth m0 m1
          go_wp2
          have hb := (block_setCell (block_setCell (block_setCell (block_setCell (block_setCell (block_setCell RES5.out (o := 0) (.string (x 0).s)) (o := 1) (.string (x 1).s)) (o := 2) (.int .u64 (x 2).n)) (o := 3) (.int .u64 (x 3).n)) (o := 4) (.int .u64 (x 4).n)) (o := 5) (.int .u64 (x 5).n))
          have d : ∀ o, _ = _ := block_cell hb
          refine bodyPost_ret (v := .agg (cellsMsg x)) ?_ rfl ?_
          · simp [results, Tryz.results88, go_sem, d]
          · rw [HE.out]
            exact ⟨rfl, HK.out, (CurIs.setOff (CurIs.setOff (CurIs.setOff (CurIs.setOff (CurIs.setOff (CurIs.setOff HC5.out hcb hrb _) hcb hrb _) hcb hrb _) hcb hrb _) hcb hrb _) hcb hrb _), (Chg.setNew (Chg.setNew (Chg.setNew (Chg.setNew (Chg.setNew (Chg.setNew HG5.out (show w.heap.size ≤ b0 by have := HB0.out; omega) _) (show w.heap.size ≤ b0 by have := HB0.out; omega) _) (show w.heap.size ≤ b0 by have := HB0.out; omega) _) (show w.heap.size ≤ b0 by have := HB0.out; omega) _) (show w.heap.size ≤ b0 by have := HB0.out; omega) _) (show w.heap.size ≤ b0 by have := HB0.out; omega) _)⟩
        | false =>
          have HF : Hid (Calls Tryz.prog 131 #[.pointer (some ⟨cb, 0, none⟩), .bool false, .int .i64 5] w3 (CurR (.tuple #[]) (failS (msgMiss x) 5 _) cb rb s w3)) := Lib.hid (by have h := HF.out; rw [show msgMiss x = false by simp [msgMiss, q0, q1]] at h ⊢; exact h)
          go_wp2_with fail
          refine HF.out.mono ?_
          rintro e w5 ⟨rfl, hc, hg⟩
          have HC5 := Lib.hid hc
          have HG5 := Lib.hid (HG.out.trans hg)
          have RES5 : Hid (w5.heap[b0]? = some (.cells #[.string ⟨#[]⟩, .string ⟨#[]⟩, .int .u64 0, .int .u64 0, .int .u64 0, .int .u64 0] 76 (0, 0))) := Lib.hid ((hg.block _ (lt_of_block RES.out) (by omega) (by omega)).trans RES.out)
          obtain ⟨_, hth, -⟩ := msg_of_rec (REC.out.cur hg (by omega) (by omega)) HK.out
          have k0 : w5.cell? ⟨b0 + 1, 0, none⟩ = some (.string (x 0).s) := block_cell hth 0
          have k1 : w5.cell? ⟨b0 + 1, 1, none⟩ = some (.string (x 1).s) := block_cell hth 1
          have k2 : w5.cell? ⟨b0 + 1, 2, none⟩ = some (.int .u64 (x 2).n) := block_cell hth 2
          have k3 : w5.cell? ⟨b0 + 1, 3, none⟩ = some (.int .u64 (x 3).n) := block_cell hth 3
          have k4 : w5.cell? ⟨b0 + 1, 4, none⟩ = some (.int .u64 (x 4).n) := block_cell hth 4
          have k5 : w5.cell? ⟨b0 + 1, 5, none⟩ = some (.int .u64 (x 5).n) := block_cell hth 5
          have g0 : ∀ o, w5.cell? ⟨b0, o, none⟩ = _ := block_cell RES5.out
          have g1 : ∀ o, w5.frozen? ⟨b0, o, none⟩ = false := block_free RES5.out
          have g2 : b0 < w5.heap.size := lt_of_block RES5.out
          clear hc hg hth m0 m1
          go_wp2
          have hb := (block_setCell (block_setCell (block_setCell (block_setCell (block_setCell (block_setCell RES5.out (o := 0) (.string (x 0).s)) (o := 1) (.string (x 1).s)) (o := 2) (.int .u64 (x 2).n)) (o := 3) (.int .u64 (x 3).n)) (o := 4) (.int .u64 (x 4).n)) (o := 5) (.int .u64 (x 5).n))
          have d : ∀ o, _ = _ := block_cell hb
          refine bodyPost_ret (v := .agg (cellsMsg x)) ?_ rfl ?_
          · simp [results, Tryz.results88, go_sem, d]
          · rw [HE.out]
            exact ⟨rfl, HK.out, (CurIs.setOff (CurIs.setOff (CurIs.setOff (CurIs.setOff (CurIs.setOff (CurIs.setOff HC5.out hcb hrb _) hcb hrb _) hcb hrb _) hcb hrb _) hcb hrb _) hcb hrb _), (Chg.setNew (Chg.setNew (Chg.setNew (Chg.setNew (Chg.setNew (Chg.setNew HG5.out (show w.heap.size ≤ b0 by have := HB0.out; omega) _) (show w.heap.size ≤ b0 by have := HB0.out; omega) _) (show w.heap.size ≤ b0 by have := HB0.out; omega) _) (show w.heap.size ≤ b0 by have := HB0.out; omega) _) (show w.heap.size ≤ b0 by have := HB0.out; omega) _) (show w.heap.size ≤ b0 by have := HB0.out; omega) _)⟩
def headerQs (s : ByteArray) : List (UInt8 × RStep) := [(112, digStep s 1), (114, numStep s 0), (115, digStep s 3), (116, digStep s 2)]
abbrev headerMiss (x : Rcd) : Bool := (x 1).s.toList.isEmpty || (x 3).s.toList.isEmpty || (x 2).s.toList.isEmpty
def headerS (s : ByteArray) (σ : Cst) : Rcd × Cst := ((objS s ⟨#[112, 114, 115, 116]⟩ (headerQs s) header0 σ).1, failS (headerMiss (objS s ⟨#[112, 114, 115, 116]⟩ (headerQs s) header0 σ).1) 5 (objS s ⟨#[112, 114, 115, 116]⟩ (headerQs s) header0 σ).2)
set_option maxRecDepth 100000 in
set_option maxHeartbeats 8000000 in
theorem cheader_any (cb rb : Nat) (s : ByteArray) (σ : Cst) (w : World) (h : CurIs w cb rb s σ) :
    Calls Tryz.prog 91 #[.pointer (some ⟨cb, 0, none⟩)] w (fun e w' => e = .returned (.agg (cellsHeader (headerS s σ).1)) ∧ Kd header0 (headerS s σ).1 ∧ CurIs w' cb rb s (headerS s σ).2 ∧ Chg rb cb w w') := by
  have hcs := h.clt
  have hrs := h.rlt
  have h1 := fun (w' : World) (hb : Below w.heap.size w w') => cpairs_any cb rb s σ w' (h.below hb)
  have hbd := pairsS_bd (s := s) (σ := σ)
  unfold headerS objS
  generalize pairsS s σ = z at h1 hbd ⊢
  obtain ⟨k0, σ1⟩ := z
  obtain ⟨N, rfl⟩ : ∃ k : Nat, k0 = k := ⟨k0.toNat, by have := hbd.1; simp only at this ⊢; omega⟩
  have hN : N ≤ 10240 := by have := hbd.2; simp only at this; omega
  have H := Lib.hid h1
  clear h1 h hbd
  simp only [Int.toNat_natCast]
  go_enter Tryz.func91, Tryz.ntmps91
  go_upto_region 2 with fail
  obtain ⟨b0, hb0⟩ : ∃ b0, w.heap.size = b0 := ⟨_, rfl⟩
  obtain ⟨V, hV⟩ : ∃ V, (w.alloc (.cells #[.int .u64 0, .string ⟨#[]⟩, .string ⟨#[]⟩, .string ⟨#[]⟩] 78)).alloc (.cells #[.int .u64 0, .string ⟨#[]⟩, .string ⟨#[]⟩, .string ⟨#[]⟩] 78) = V := ⟨_, rfl⟩
  have HV : Hid (Below w.heap.size w V) := Lib.hid (by rw [← hV]; exact balloc (balloc (Below.refl _ _) _) _)
  have V0 : Hid (V.heap[b0]? = some (.cells #[.int .u64 0, .string ⟨#[]⟩, .string ⟨#[]⟩, .string ⟨#[]⟩] 78 (0, 0))) := Lib.hid (by rw [← hV, ← hb0]; exact block_alloc (heap_alloc_new _ _) _)
  have V1 : Hid (V.heap[b0 + 1]? = some (.cells #[.int .u64 0, .string ⟨#[]⟩, .string ⟨#[]⟩, .string ⟨#[]⟩] 78 (0, 0))) := Lib.hid (by rw [← hV]; exact alloc_new_at _ (by simp [hb0]))
  have REC : Hid (RecAt rb (b0 + 1) 78 4 V header0) := Lib.hid (rec_zero V1.out rfl (fun i hi => by
    match i, hi with
    | 0, _ => exact ⟨_, rfl, rfl⟩
    | 1, _ => exact ⟨_, rfl, rfl⟩
    | 2, _ => exact ⟨_, rfl, rfl⟩
    | 3, _ => exact ⟨_, rfl, rfl⟩))
  have HB0 := Lib.hid hb0
  have hcb : cb < b0 := by omega
  have hrb : rb < b0 := by omega
  try rw [hV]
  try simp only [hb0]
  clear hV hb0
  go_wp2_with fail
  refine (H.out V HV.out).mono ?_
  rintro e w1 ⟨rfl, hc, hg⟩
  have HC1 := Lib.hid hc
  have HG1 : Hid (Chg rb cb w w1) := Lib.hid ((Chg.of_below HV.out).trans hg)
  have RES1 : Hid (w1.heap[b0]? = some (.cells #[.int .u64 0, .string ⟨#[]⟩, .string ⟨#[]⟩, .string ⟨#[]⟩] 78 (0, 0))) := Lib.hid ((hg.block _ (lt_of_block V0.out) (by omega) (by omega)).trans V0.out)
  have REC1 : Hid (RecAt rb (b0 + 1) 78 4 w1 header0) := Lib.hid (REC.out.cur hg (by omega) (by omega))
  clear hc hg H V0 V1 REC
  go_wp2
  go_loopg [5, 6] N (fun gg lv i wr => ∃ (m : Nat) (τ : Cst) (x : Rcd) (last : ByteArray), gg + m = N ∧ i = .int .u64 m ∧ lv = .string last ∧ Hid (rLoop s ⟨#[112, 114, 115, 116]⟩ (headerQs s) N ⟨#[]⟩ header0 σ1 = rLoop s ⟨#[112, 114, 115, 116]⟩ (headerQs s) gg last x τ) ∧ Hid (CurIs wr cb rb s τ) ∧ Hid (Chg rb cb w wr) ∧ Hid (RecAt rb (b0 + 1) 78 4 wr x) ∧ Hid (Kd header0 x) ∧ Hid (wr.heap[b0]? = some (.cells #[.int .u64 0, .string ⟨#[]⟩, .string ⟨#[]⟩, .string ⟨#[]⟩] 78 (0, 0))))
  case atStart => exact ⟨0, σ1, header0, ⟨#[]⟩, rfl, rfl, rfl, rfl, HC1.out, HG1.out, REC1.out, fun i => rfl, RES1.out⟩
  case round =>
    clear HC1 HG1 RES1 REC1
    obtain ⟨m, τ, x, last, hm, rfl, rfl, HD, HC, HG, REC, HK, RES⟩ := hrel
    by_cases hlt : m < N
    · obtain ⟨g', rfl⟩ : ∃ g', gk = g' + 1 := ⟨gk - 1, by omega⟩
      have i1 : (m : Int) < N := by omega
      have HB := Lib.hid (bad_any cb rb s τ _ HC.out)
      go_wp2_with fail
      refine HB.out.mono ?_
      rintro e w3 ⟨rfl, rfl⟩
      cases τ with
      | error f =>
        simp only [isBad]
        have HE : Hid (rLoop s ⟨#[112, 114, 115, 116]⟩ (headerQs s) N ⟨#[]⟩ header0 σ1 = (x, .error f)) := Lib.hid (by rw [HD.out, rLoop_bad])
        clear HB HD
        obtain ⟨_, hth, -⟩ := header_of_rec REC.out HK.out
        have m1 : w3.cell? ⟨b0 + 1, 1, none⟩ = some (.string (x 1).s) := block_cell hth 1
        have m3 : w3.cell? ⟨b0 + 1, 3, none⟩ = some (.string (x 3).s) := block_cell hth 3
        have m2 : w3.cell? ⟨b0 + 1, 2, none⟩ = some (.string (x 2).s) := block_cell hth 2
        have HF := Lib.hid (fail_any cb rb s (.error f) (headerMiss x) 5 w3 HC.out (by decide))
        clear hth
        cases q1 : (x 1).s.toList.isEmpty with
        | true =>
          have HF : Hid (Calls Tryz.prog 131 #[.pointer (some ⟨cb, 0, none⟩), .bool true, .int .i64 5] w3 (CurR (.tuple #[]) (failS (headerMiss x) 5 _) cb rb s w3)) := Lib.hid (by have h := HF.out; rw [show headerMiss x = true by simp [headerMiss, q1]] at h ⊢; exact h)
          go_wp2_with fail
          refine HF.out.mono ?_
          rintro e w5 ⟨rfl, hc, hg⟩
          have HC5 := Lib.hid hc
          have HG5 := Lib.hid (HG.out.trans hg)
          have RES5 : Hid (w5.heap[b0]? = some (.cells #[.int .u64 0, .string ⟨#[]⟩, .string ⟨#[]⟩, .string ⟨#[]⟩] 78 (0, 0))) := Lib.hid ((hg.block _ (lt_of_block RES.out) (by omega) (by omega)).trans RES.out)
          obtain ⟨_, hth, -⟩ := header_of_rec (REC.out.cur hg (by omega) (by omega)) HK.out
          have k0 : w5.cell? ⟨b0 + 1, 0, none⟩ = some (.int .u64 (x 0).n) := block_cell hth 0
          have k1 : w5.cell? ⟨b0 + 1, 1, none⟩ = some (.string (x 1).s) := block_cell hth 1
          have k2 : w5.cell? ⟨b0 + 1, 2, none⟩ = some (.string (x 2).s) := block_cell hth 2
          have k3 : w5.cell? ⟨b0 + 1, 3, none⟩ = some (.string (x 3).s) := block_cell hth 3
          have g0 : ∀ o, w5.cell? ⟨b0, o, none⟩ = _ := block_cell RES5.out
          have g1 : ∀ o, w5.frozen? ⟨b0, o, none⟩ = false := block_free RES5.out
          have g2 : b0 < w5.heap.size := lt_of_block RES5.out
          clear hc hg hth m1 m3 m2
          go_wp2
          have hb := (block_setCell (block_setCell (block_setCell (block_setCell RES5.out (o := 0) (.int .u64 (x 0).n)) (o := 1) (.string (x 1).s)) (o := 2) (.string (x 2).s)) (o := 3) (.string (x 3).s))
          have d : ∀ o, _ = _ := block_cell hb
          refine bodyPost_ret (v := .agg (cellsHeader x)) ?_ rfl ?_
          · simp [results, Tryz.results91, go_sem, d]
          · rw [HE.out]
            exact ⟨rfl, HK.out, (CurIs.setOff (CurIs.setOff (CurIs.setOff (CurIs.setOff HC5.out hcb hrb _) hcb hrb _) hcb hrb _) hcb hrb _), (Chg.setNew (Chg.setNew (Chg.setNew (Chg.setNew HG5.out (show w.heap.size ≤ b0 by have := HB0.out; omega) _) (show w.heap.size ≤ b0 by have := HB0.out; omega) _) (show w.heap.size ≤ b0 by have := HB0.out; omega) _) (show w.heap.size ≤ b0 by have := HB0.out; omega) _)⟩
        | false =>
          cases q3 : (x 3).s.toList.isEmpty with
          | true =>
            have HF : Hid (Calls Tryz.prog 131 #[.pointer (some ⟨cb, 0, none⟩), .bool true, .int .i64 5] w3 (CurR (.tuple #[]) (failS (headerMiss x) 5 _) cb rb s w3)) := Lib.hid (by have h := HF.out; rw [show headerMiss x = true by simp [headerMiss, q1, q3]] at h ⊢; exact h)
            go_wp2_with fail
            refine HF.out.mono ?_
            rintro e w5 ⟨rfl, hc, hg⟩
            have HC5 := Lib.hid hc
            have HG5 := Lib.hid (HG.out.trans hg)
            have RES5 : Hid (w5.heap[b0]? = some (.cells #[.int .u64 0, .string ⟨#[]⟩, .string ⟨#[]⟩, .string ⟨#[]⟩] 78 (0, 0))) := Lib.hid ((hg.block _ (lt_of_block RES.out) (by omega) (by omega)).trans RES.out)
            obtain ⟨_, hth, -⟩ := header_of_rec (REC.out.cur hg (by omega) (by omega)) HK.out
            have k0 : w5.cell? ⟨b0 + 1, 0, none⟩ = some (.int .u64 (x 0).n) := block_cell hth 0
            have k1 : w5.cell? ⟨b0 + 1, 1, none⟩ = some (.string (x 1).s) := block_cell hth 1
            have k2 : w5.cell? ⟨b0 + 1, 2, none⟩ = some (.string (x 2).s) := block_cell hth 2
            have k3 : w5.cell? ⟨b0 + 1, 3, none⟩ = some (.string (x 3).s) := block_cell hth 3
            have g0 : ∀ o, w5.cell? ⟨b0, o, none⟩ = _ := block_cell RES5.out
            have g1 : ∀ o, w5.frozen? ⟨b0, o, none⟩ = false := block_free RES5.out
            have g2 : b0 < w5.heap.size := lt_of_block RES5.out
            clear hc hg hth m1 m3 m2
            go_wp2
            have hb := (block_setCell (block_setCell (block_setCell (block_setCell RES5.out (o := 0) (.int .u64 (x 0).n)) (o := 1) (.string (x 1).s)) (o := 2) (.string (x 2).s)) (o := 3) (.string (x 3).s))
            have d : ∀ o, _ = _ := block_cell hb
            refine bodyPost_ret (v := .agg (cellsHeader x)) ?_ rfl ?_
            · simp [results, Tryz.results91, go_sem, d]
            · rw [HE.out]
              exact ⟨rfl, HK.out, (CurIs.setOff (CurIs.setOff (CurIs.setOff (CurIs.setOff HC5.out hcb hrb _) hcb hrb _) hcb hrb _) hcb hrb _), (Chg.setNew (Chg.setNew (Chg.setNew (Chg.setNew HG5.out (show w.heap.size ≤ b0 by have := HB0.out; omega) _) (show w.heap.size ≤ b0 by have := HB0.out; omega) _) (show w.heap.size ≤ b0 by have := HB0.out; omega) _) (show w.heap.size ≤ b0 by have := HB0.out; omega) _)⟩
          | false =>
            cases q2 : (x 2).s.toList.isEmpty with
            | true =>
              have HF : Hid (Calls Tryz.prog 131 #[.pointer (some ⟨cb, 0, none⟩), .bool true, .int .i64 5] w3 (CurR (.tuple #[]) (failS (headerMiss x) 5 _) cb rb s w3)) := Lib.hid (by have h := HF.out; rw [show headerMiss x = true by simp [headerMiss, q1, q3, q2]] at h ⊢; exact h)
              go_wp2_with fail
              refine HF.out.mono ?_
              rintro e w5 ⟨rfl, hc, hg⟩
              have HC5 := Lib.hid hc
              have HG5 := Lib.hid (HG.out.trans hg)
              have RES5 : Hid (w5.heap[b0]? = some (.cells #[.int .u64 0, .string ⟨#[]⟩, .string ⟨#[]⟩, .string ⟨#[]⟩] 78 (0, 0))) := Lib.hid ((hg.block _ (lt_of_block RES.out) (by omega) (by omega)).trans RES.out)
              obtain ⟨_, hth, -⟩ := header_of_rec (REC.out.cur hg (by omega) (by omega)) HK.out
              have k0 : w5.cell? ⟨b0 + 1, 0, none⟩ = some (.int .u64 (x 0).n) := block_cell hth 0
              have k1 : w5.cell? ⟨b0 + 1, 1, none⟩ = some (.string (x 1).s) := block_cell hth 1
              have k2 : w5.cell? ⟨b0 + 1, 2, none⟩ = some (.string (x 2).s) := block_cell hth 2
              have k3 : w5.cell? ⟨b0 + 1, 3, none⟩ = some (.string (x 3).s) := block_cell hth 3
              have g0 : ∀ o, w5.cell? ⟨b0, o, none⟩ = _ := block_cell RES5.out
              have g1 : ∀ o, w5.frozen? ⟨b0, o, none⟩ = false := block_free RES5.out
              have g2 : b0 < w5.heap.size := lt_of_block RES5.out
              clear hc hg hth m1 m3 m2
              go_wp2
              have hb := (block_setCell (block_setCell (block_setCell (block_setCell RES5.out (o := 0) (.int .u64 (x 0).n)) (o := 1) (.string (x 1).s)) (o := 2) (.string (x 2).s)) (o := 3) (.string (x 3).s))
              have d : ∀ o, _ = _ := block_cell hb
              refine bodyPost_ret (v := .agg (cellsHeader x)) ?_ rfl ?_
              · simp [results, Tryz.results91, go_sem, d]
              · rw [HE.out]
                exact ⟨rfl, HK.out, (CurIs.setOff (CurIs.setOff (CurIs.setOff (CurIs.setOff HC5.out hcb hrb _) hcb hrb _) hcb hrb _) hcb hrb _), (Chg.setNew (Chg.setNew (Chg.setNew (Chg.setNew HG5.out (show w.heap.size ≤ b0 by have := HB0.out; omega) _) (show w.heap.size ≤ b0 by have := HB0.out; omega) _) (show w.heap.size ≤ b0 by have := HB0.out; omega) _) (show w.heap.size ≤ b0 by have := HB0.out; omega) _)⟩
            | false =>
              have HF : Hid (Calls Tryz.prog 131 #[.pointer (some ⟨cb, 0, none⟩), .bool false, .int .i64 5] w3 (CurR (.tuple #[]) (failS (headerMiss x) 5 _) cb rb s w3)) := Lib.hid (by have h := HF.out; rw [show headerMiss x = false by simp [headerMiss, q1, q3, q2]] at h ⊢; exact h)
              go_wp2_with fail
              refine HF.out.mono ?_
              rintro e w5 ⟨rfl, hc, hg⟩
              have HC5 := Lib.hid hc
              have HG5 := Lib.hid (HG.out.trans hg)
              have RES5 : Hid (w5.heap[b0]? = some (.cells #[.int .u64 0, .string ⟨#[]⟩, .string ⟨#[]⟩, .string ⟨#[]⟩] 78 (0, 0))) := Lib.hid ((hg.block _ (lt_of_block RES.out) (by omega) (by omega)).trans RES.out)
              obtain ⟨_, hth, -⟩ := header_of_rec (REC.out.cur hg (by omega) (by omega)) HK.out
              have k0 : w5.cell? ⟨b0 + 1, 0, none⟩ = some (.int .u64 (x 0).n) := block_cell hth 0
              have k1 : w5.cell? ⟨b0 + 1, 1, none⟩ = some (.string (x 1).s) := block_cell hth 1
              have k2 : w5.cell? ⟨b0 + 1, 2, none⟩ = some (.string (x 2).s) := block_cell hth 2
              have k3 : w5.cell? ⟨b0 + 1, 3, none⟩ = some (.string (x 3).s) := block_cell hth 3
              have g0 : ∀ o, w5.cell? ⟨b0, o, none⟩ = _ := block_cell RES5.out
              have g1 : ∀ o, w5.frozen? ⟨b0, o, none⟩ = false := block_free RES5.out
              have g2 : b0 < w5.heap.size := lt_of_block RES5.out
              clear hc hg hth m1 m3 m2
              go_wp2
              have hb := (block_setCell (block_setCell (block_setCell (block_setCell RES5.out (o := 0) (.int .u64 (x 0).n)) (o := 1) (.string (x 1).s)) (o := 2) (.string (x 2).s)) (o := 3) (.string (x 3).s))
              have d : ∀ o, _ = _ := block_cell hb
              refine bodyPost_ret (v := .agg (cellsHeader x)) ?_ rfl ?_
              · simp [results, Tryz.results91, go_sem, d]
              · rw [HE.out]
                exact ⟨rfl, HK.out, (CurIs.setOff (CurIs.setOff (CurIs.setOff (CurIs.setOff HC5.out hcb hrb _) hcb hrb _) hcb hrb _) hcb hrb _), (Chg.setNew (Chg.setNew (Chg.setNew (Chg.setNew HG5.out (show w.heap.size ≤ b0 by have := HB0.out; omega) _) (show w.heap.size ≤ b0 by have := HB0.out; omega) _) (show w.heap.size ≤ b0 by have := HB0.out; omega) _) (show w.heap.size ≤ b0 by have := HB0.out; omega) _)⟩
      | ok a =>
        simp only [isBad]
        have HKY := Lib.hid (ckey_any cb rb s ⟨#[112, 114, 115, 116]⟩ last (.ok a) w3 HC.out (by decide))
        have HE : Hid (rLoop s ⟨#[112, 114, 115, 116]⟩ (headerQs s) N ⟨#[]⟩ header0 σ1 = rLoop s ⟨#[112, 114, 115, 116]⟩ (headerQs s) g' (keyS s ⟨#[112, 114, 115, 116]⟩ last (.ok a)).1 (sw (headerQs s) (keyS s ⟨#[112, 114, 115, 116]⟩ last (.ok a)).1 x (keyS s ⟨#[112, 114, 115, 116]⟩ last (.ok a)).2).1 (sw (headerQs s) (keyS s ⟨#[112, 114, 115, 116]⟩ last (.ok a)).1 x (keyS s ⟨#[112, 114, 115, 116]⟩ last (.ok a)).2).2) := Lib.hid HD.out
        clear HB HD
        go_wp2_with fail
        refine HKY.out.mono ?_
        rintro e w4 ⟨rfl, hc, hg⟩
        have HC4 := Lib.hid hc
        have HG4 : Hid (Chg rb cb w w4) := Lib.hid (HG.out.trans hg)
        have REC4 := Lib.hid (REC.out.cur hg (by omega) (by omega))
        have RES4 : Hid (w4.heap[b0]? = some (.cells #[.int .u64 0, .string ⟨#[]⟩, .string ⟨#[]⟩, .string ⟨#[]⟩] 78 (0, 0))) := Lib.hid ((hg.block _ (lt_of_block RES.out) (by omega) (by omega)).trans RES.out)
        clear hc hg HKY HC HG REC RES
        obtain ⟨key, hkey⟩ : ∃ key, (keyS s ⟨#[112, 114, 115, 116]⟩ last (.ok a)).1 = key := ⟨_, rfl⟩
        obtain ⟨τ1, hτ1⟩ : ∃ τ1, (keyS s ⟨#[112, 114, 115, 116]⟩ last (.ok a)).2 = τ1 := ⟨_, rfl⟩
        have HE : Hid (rLoop s ⟨#[112, 114, 115, 116]⟩ (headerQs s) N ⟨#[]⟩ header0 σ1 = rLoop s ⟨#[112, 114, 115, 116]⟩ (headerQs s) g' key (sw (headerQs s) key x τ1).1 (sw (headerQs s) key x τ1).2) := Lib.hid (by have := HE.out; rw [hkey, hτ1] at this; exact this)
        have HC4 : Hid (CurIs w4 cb rb s τ1) := Lib.hid (by rw [← hτ1]; exact HC4.out)
        rw [hkey]
        clear hkey hτ1
        cases hq0 : (key.toList == [112]) with
        | true =>
          have es : sw (headerQs s) key x τ1 = (upd x 1 (.str (digS s τ1).1), (digS s τ1).2) := by unfold headerQs; simp only [sw, hq0, if_true, Bool.false_eq_true, if_false]; rfl
          have HE2 : Hid (rLoop s ⟨#[112, 114, 115, 116]⟩ (headerQs s) N ⟨#[]⟩ header0 σ1 = rLoop s ⟨#[112, 114, 115, 116]⟩ (headerQs s) g' key (upd x 1 (.str (digS s τ1).1)) (digS s τ1).2) := Lib.hid (by rw [HE.out, es])
          have HNM := Lib.hid (cdig_any cb rb s τ1 w4 HC4.out)
          clear es HE
          go_wp2_with fail
          refine HNM.out.mono ?_
          rintro e w5 ⟨rfl, hc, hg⟩
          have HC5 := Lib.hid hc
          have HG5 := Lib.hid (HG4.out.trans hg)
          have hrec := REC4.out.cur hg (by omega) (by omega)
          have REC5 := Lib.hid hrec
          have RES5 : Hid (w5.heap[b0]? = some (.cells #[.int .u64 0, .string ⟨#[]⟩, .string ⟨#[]⟩, .string ⟨#[]⟩] 78 (0, 0))) := Lib.hid ((hg.block _ (lt_of_block RES4.out) (by omega) (by omega)).trans RES4.out)
          obtain ⟨u, hu, -⟩ := hrec.get (show 1 < 4 by decide)
          have hfz := hrec.free 1
          clear hc hg hrec
          go_wp2
          go_roundg g'
          case rel => exact ⟨m + 1, _, _, key, by omega, by go_num, rfl, HE2.out, HC5.out.setOff (by omega) (by omega) _, HG5.out.setNew (show w.heap.size ≤ b0 + 1 by have := HB0.out; omega) _, REC5.out.set (show 1 < 4 by decide) rfl, HK.out.upd rfl, Lib.hid (block_setCell_ne RES5.out (show b0 ≠ b0 + 1 by omega) _)⟩
          case measure => omega
        | false =>
          cases hq1 : (key.toList == [114]) with
          | true =>
            have es : sw (headerQs s) key x τ1 = (upd x 0 (.num (numS s τ1).1), (numS s τ1).2) := by unfold headerQs; simp only [sw, hq0, hq1, if_true, Bool.false_eq_true, if_false]; rfl
            have HE2 : Hid (rLoop s ⟨#[112, 114, 115, 116]⟩ (headerQs s) N ⟨#[]⟩ header0 σ1 = rLoop s ⟨#[112, 114, 115, 116]⟩ (headerQs s) g' key (upd x 0 (.num (numS s τ1).1)) (numS s τ1).2) := Lib.hid (by rw [HE.out, es])
            have HNM := Lib.hid (cnum_any cb rb s τ1 w4 HC4.out)
            clear es HE
            go_wp2_with fail
            refine HNM.out.mono ?_
            rintro e w5 ⟨rfl, hc, hg⟩
            have HC5 := Lib.hid hc
            have HG5 := Lib.hid (HG4.out.trans hg)
            have hrec := REC4.out.cur hg (by omega) (by omega)
            have REC5 := Lib.hid hrec
            have RES5 : Hid (w5.heap[b0]? = some (.cells #[.int .u64 0, .string ⟨#[]⟩, .string ⟨#[]⟩, .string ⟨#[]⟩] 78 (0, 0))) := Lib.hid ((hg.block _ (lt_of_block RES4.out) (by omega) (by omega)).trans RES4.out)
            obtain ⟨u, hu, -⟩ := hrec.get (show 0 < 4 by decide)
            have hfz := hrec.free 0
            clear hc hg hrec
            go_wp2
            go_roundg g'
            case rel => exact ⟨m + 1, _, _, key, by omega, by go_num, rfl, HE2.out, HC5.out.setOff (by omega) (by omega) _, HG5.out.setNew (show w.heap.size ≤ b0 + 1 by have := HB0.out; omega) _, REC5.out.set (show 0 < 4 by decide) rfl, HK.out.upd rfl, Lib.hid (block_setCell_ne RES5.out (show b0 ≠ b0 + 1 by omega) _)⟩
            case measure => omega
          | false =>
            cases hq2 : (key.toList == [115]) with
            | true =>
              have es : sw (headerQs s) key x τ1 = (upd x 3 (.str (digS s τ1).1), (digS s τ1).2) := by unfold headerQs; simp only [sw, hq0, hq1, hq2, if_true, Bool.false_eq_true, if_false]; rfl
              have HE2 : Hid (rLoop s ⟨#[112, 114, 115, 116]⟩ (headerQs s) N ⟨#[]⟩ header0 σ1 = rLoop s ⟨#[112, 114, 115, 116]⟩ (headerQs s) g' key (upd x 3 (.str (digS s τ1).1)) (digS s τ1).2) := Lib.hid (by rw [HE.out, es])
              have HNM := Lib.hid (cdig_any cb rb s τ1 w4 HC4.out)
              clear es HE
              go_wp2_with fail
              refine HNM.out.mono ?_
              rintro e w5 ⟨rfl, hc, hg⟩
              have HC5 := Lib.hid hc
              have HG5 := Lib.hid (HG4.out.trans hg)
              have hrec := REC4.out.cur hg (by omega) (by omega)
              have REC5 := Lib.hid hrec
              have RES5 : Hid (w5.heap[b0]? = some (.cells #[.int .u64 0, .string ⟨#[]⟩, .string ⟨#[]⟩, .string ⟨#[]⟩] 78 (0, 0))) := Lib.hid ((hg.block _ (lt_of_block RES4.out) (by omega) (by omega)).trans RES4.out)
              obtain ⟨u, hu, -⟩ := hrec.get (show 3 < 4 by decide)
              have hfz := hrec.free 3
              clear hc hg hrec
              go_wp2
              go_roundg g'
              case rel => exact ⟨m + 1, _, _, key, by omega, by go_num, rfl, HE2.out, HC5.out.setOff (by omega) (by omega) _, HG5.out.setNew (show w.heap.size ≤ b0 + 1 by have := HB0.out; omega) _, REC5.out.set (show 3 < 4 by decide) rfl, HK.out.upd rfl, Lib.hid (block_setCell_ne RES5.out (show b0 ≠ b0 + 1 by omega) _)⟩
              case measure => omega
            | false =>
              cases hq3 : (key.toList == [116]) with
              | true =>
                have es : sw (headerQs s) key x τ1 = (upd x 2 (.str (digS s τ1).1), (digS s τ1).2) := by unfold headerQs; simp only [sw, hq0, hq1, hq2, hq3, if_true, Bool.false_eq_true, if_false]; rfl
                have HE2 : Hid (rLoop s ⟨#[112, 114, 115, 116]⟩ (headerQs s) N ⟨#[]⟩ header0 σ1 = rLoop s ⟨#[112, 114, 115, 116]⟩ (headerQs s) g' key (upd x 2 (.str (digS s τ1).1)) (digS s τ1).2) := Lib.hid (by rw [HE.out, es])
                have HNM := Lib.hid (cdig_any cb rb s τ1 w4 HC4.out)
                clear es HE
                go_wp2_with fail
                refine HNM.out.mono ?_
                rintro e w5 ⟨rfl, hc, hg⟩
                have HC5 := Lib.hid hc
                have HG5 := Lib.hid (HG4.out.trans hg)
                have hrec := REC4.out.cur hg (by omega) (by omega)
                have REC5 := Lib.hid hrec
                have RES5 : Hid (w5.heap[b0]? = some (.cells #[.int .u64 0, .string ⟨#[]⟩, .string ⟨#[]⟩, .string ⟨#[]⟩] 78 (0, 0))) := Lib.hid ((hg.block _ (lt_of_block RES4.out) (by omega) (by omega)).trans RES4.out)
                obtain ⟨u, hu, -⟩ := hrec.get (show 2 < 4 by decide)
                have hfz := hrec.free 2
                clear hc hg hrec
                go_wp2
                go_roundg g'
                case rel => exact ⟨m + 1, _, _, key, by omega, by go_num, rfl, HE2.out, HC5.out.setOff (by omega) (by omega) _, HG5.out.setNew (show w.heap.size ≤ b0 + 1 by have := HB0.out; omega) _, REC5.out.set (show 2 < 4 by decide) rfl, HK.out.upd rfl, Lib.hid (block_setCell_ne RES5.out (show b0 ≠ b0 + 1 by omega) _)⟩
                case measure => omega
              | false =>
                have es : sw (headerQs s) key x τ1 = (x, τ1) := by unfold headerQs; simp only [sw, hq0, hq1, hq2, hq3, Bool.false_eq_true, if_false]
                have HE2 : Hid (rLoop s ⟨#[112, 114, 115, 116]⟩ (headerQs s) N ⟨#[]⟩ header0 σ1 = rLoop s ⟨#[112, 114, 115, 116]⟩ (headerQs s) g' key x τ1) := Lib.hid (by rw [HE.out, es])
                clear es HE
                go_wp2
                go_roundg g'
                case rel => exact ⟨m + 1, _, _, key, by omega, by go_num, rfl, HE2.out, HC4.out, HG4.out, REC4.out, HK.out, RES4.out⟩
                case measure => omega
    · obtain rfl : m = N := by omega
      have i1 : ¬ ((m : Nat) : Int) < m := by omega
      obtain rfl : gk = 0 := by omega
      obtain ⟨w3, hw3⟩ : ∃ w3, w3 = wr := ⟨_, rfl⟩
      subst hw3
      have HE : Hid (rLoop s ⟨#[112, 114, 115, 116]⟩ (headerQs s) m ⟨#[]⟩ header0 σ1 = (x, τ)) := Lib.hid HD.out
      clear HD
      obtain ⟨_, hth, -⟩ := header_of_rec REC.out HK.out
      have m1 : w3.cell? ⟨b0 + 1, 1, none⟩ = some (.string (x 1).s) := block_cell hth 1
      have m3 : w3.cell? ⟨b0 + 1, 3, none⟩ = some (.string (x 3).s) := block_cell hth 3
      have m2 : w3.cell? ⟨b0 + 1, 2, none⟩ = some (.string (x 2).s) := block_cell hth 2
      have HF := Lib.hid (fail_any cb rb s τ (headerMiss x) 5 w3 HC.out (by decide))
      clear hth
      cases q1 : (x 1).s.toList.isEmpty with
      | true =>
        have HF : Hid (Calls Tryz.prog 131 #[.pointer (some ⟨cb, 0, none⟩), .bool true, .int .i64 5] w3 (CurR (.tuple #[]) (failS (headerMiss x) 5 _) cb rb s w3)) := Lib.hid (by have h := HF.out; rw [show headerMiss x = true by simp [headerMiss, q1]] at h ⊢; exact h)
        go_wp2_with fail
        refine HF.out.mono ?_
        rintro e w5 ⟨rfl, hc, hg⟩
        have HC5 := Lib.hid hc
        have HG5 := Lib.hid (HG.out.trans hg)
        have RES5 : Hid (w5.heap[b0]? = some (.cells #[.int .u64 0, .string ⟨#[]⟩, .string ⟨#[]⟩, .string ⟨#[]⟩] 78 (0, 0))) := Lib.hid ((hg.block _ (lt_of_block RES.out) (by omega) (by omega)).trans RES.out)
        obtain ⟨_, hth, -⟩ := header_of_rec (REC.out.cur hg (by omega) (by omega)) HK.out
        have k0 : w5.cell? ⟨b0 + 1, 0, none⟩ = some (.int .u64 (x 0).n) := block_cell hth 0
        have k1 : w5.cell? ⟨b0 + 1, 1, none⟩ = some (.string (x 1).s) := block_cell hth 1
        have k2 : w5.cell? ⟨b0 + 1, 2, none⟩ = some (.string (x 2).s) := block_cell hth 2
        have k3 : w5.cell? ⟨b0 + 1, 3, none⟩ = some (.string (x 3).s) := block_cell hth 3
        have g0 : ∀ o, w5.cell? ⟨b0, o, none⟩ = _ := block_cell RES5.out
        have g1 : ∀ o, w5.frozen? ⟨b0, o, none⟩ = false := block_free RES5.out
        have g2 : b0 < w5.heap.size := lt_of_block RES5.out
        clear hc hg hth m1 m3 m2
        go_wp2
        have hb := (block_setCell (block_setCell (block_setCell (block_setCell RES5.out (o := 0) (.int .u64 (x 0).n)) (o := 1) (.string (x 1).s)) (o := 2) (.string (x 2).s)) (o := 3) (.string (x 3).s))
        have d : ∀ o, _ = _ := block_cell hb
        refine bodyPost_ret (v := .agg (cellsHeader x)) ?_ rfl ?_
        · simp [results, Tryz.results91, go_sem, d]
        · rw [HE.out]
          exact ⟨rfl, HK.out, (CurIs.setOff (CurIs.setOff (CurIs.setOff (CurIs.setOff HC5.out hcb hrb _) hcb hrb _) hcb hrb _) hcb hrb _), (Chg.setNew (Chg.setNew (Chg.setNew (Chg.setNew HG5.out (show w.heap.size ≤ b0 by have := HB0.out; omega) _) (show w.heap.size ≤ b0 by have := HB0.out; omega) _) (show w.heap.size ≤ b0 by have := HB0.out; omega) _) (show w.heap.size ≤ b0 by have := HB0.out; omega) _)⟩
      | false =>
        cases q3 : (x 3).s.toList.isEmpty with
        | true =>
          have HF : Hid (Calls Tryz.prog 131 #[.pointer (some ⟨cb, 0, none⟩), .bool true, .int .i64 5] w3 (CurR (.tuple #[]) (failS (headerMiss x) 5 _) cb rb s w3)) := Lib.hid (by have h := HF.out; rw [show headerMiss x = true by simp [headerMiss, q1, q3]] at h ⊢; exact h)
          go_wp2_with fail
          refine HF.out.mono ?_
          rintro e w5 ⟨rfl, hc, hg⟩
          have HC5 := Lib.hid hc
          have HG5 := Lib.hid (HG.out.trans hg)
          have RES5 : Hid (w5.heap[b0]? = some (.cells #[.int .u64 0, .string ⟨#[]⟩, .string ⟨#[]⟩, .string ⟨#[]⟩] 78 (0, 0))) := Lib.hid ((hg.block _ (lt_of_block RES.out) (by omega) (by omega)).trans RES.out)
          obtain ⟨_, hth, -⟩ := header_of_rec (REC.out.cur hg (by omega) (by omega)) HK.out
          have k0 : w5.cell? ⟨b0 + 1, 0, none⟩ = some (.int .u64 (x 0).n) := block_cell hth 0
          have k1 : w5.cell? ⟨b0 + 1, 1, none⟩ = some (.string (x 1).s) := block_cell hth 1
          have k2 : w5.cell? ⟨b0 + 1, 2, none⟩ = some (.string (x 2).s) := block_cell hth 2
          have k3 : w5.cell? ⟨b0 + 1, 3, none⟩ = some (.string (x 3).s) := block_cell hth 3
          have g0 : ∀ o, w5.cell? ⟨b0, o, none⟩ = _ := block_cell RES5.out
          have g1 : ∀ o, w5.frozen? ⟨b0, o, none⟩ = false := block_free RES5.out
          have g2 : b0 < w5.heap.size := lt_of_block RES5.out
          clear hc hg hth m1 m3 m2
          go_wp2
          have hb := (block_setCell (block_setCell (block_setCell (block_setCell RES5.out (o := 0) (.int .u64 (x 0).n)) (o := 1) (.string (x 1).s)) (o := 2) (.string (x 2).s)) (o := 3) (.string (x 3).s))
          have d : ∀ o, _ = _ := block_cell hb
          refine bodyPost_ret (v := .agg (cellsHeader x)) ?_ rfl ?_
          · simp [results, Tryz.results91, go_sem, d]
          · rw [HE.out]
            exact ⟨rfl, HK.out, (CurIs.setOff (CurIs.setOff (CurIs.setOff (CurIs.setOff HC5.out hcb hrb _) hcb hrb _) hcb hrb _) hcb hrb _), (Chg.setNew (Chg.setNew (Chg.setNew (Chg.setNew HG5.out (show w.heap.size ≤ b0 by have := HB0.out; omega) _) (show w.heap.size ≤ b0 by have := HB0.out; omega) _) (show w.heap.size ≤ b0 by have := HB0.out; omega) _) (show w.heap.size ≤ b0 by have := HB0.out; omega) _)⟩
        | false =>
          cases q2 : (x 2).s.toList.isEmpty with
          | true =>
            have HF : Hid (Calls Tryz.prog 131 #[.pointer (some ⟨cb, 0, none⟩), .bool true, .int .i64 5] w3 (CurR (.tuple #[]) (failS (headerMiss x) 5 _) cb rb s w3)) := Lib.hid (by have h := HF.out; rw [show headerMiss x = true by simp [headerMiss, q1, q3, q2]] at h ⊢; exact h)
            go_wp2_with fail
            refine HF.out.mono ?_
            rintro e w5 ⟨rfl, hc, hg⟩
            have HC5 := Lib.hid hc
            have HG5 := Lib.hid (HG.out.trans hg)
            have RES5 : Hid (w5.heap[b0]? = some (.cells #[.int .u64 0, .string ⟨#[]⟩, .string ⟨#[]⟩, .string ⟨#[]⟩] 78 (0, 0))) := Lib.hid ((hg.block _ (lt_of_block RES.out) (by omega) (by omega)).trans RES.out)
            obtain ⟨_, hth, -⟩ := header_of_rec (REC.out.cur hg (by omega) (by omega)) HK.out
            have k0 : w5.cell? ⟨b0 + 1, 0, none⟩ = some (.int .u64 (x 0).n) := block_cell hth 0
            have k1 : w5.cell? ⟨b0 + 1, 1, none⟩ = some (.string (x 1).s) := block_cell hth 1
            have k2 : w5.cell? ⟨b0 + 1, 2, none⟩ = some (.string (x 2).s) := block_cell hth 2
            have k3 : w5.cell? ⟨b0 + 1, 3, none⟩ = some (.string (x 3).s) := block_cell hth 3
            have g0 : ∀ o, w5.cell? ⟨b0, o, none⟩ = _ := block_cell RES5.out
            have g1 : ∀ o, w5.frozen? ⟨b0, o, none⟩ = false := block_free RES5.out
            have g2 : b0 < w5.heap.size := lt_of_block RES5.out
            clear hc hg hth m1 m3 m2
            go_wp2
            have hb := (block_setCell (block_setCell (block_setCell (block_setCell RES5.out (o := 0) (.int .u64 (x 0).n)) (o := 1) (.string (x 1).s)) (o := 2) (.string (x 2).s)) (o := 3) (.string (x 3).s))
            have d : ∀ o, _ = _ := block_cell hb
            refine bodyPost_ret (v := .agg (cellsHeader x)) ?_ rfl ?_
            · simp [results, Tryz.results91, go_sem, d]
            · rw [HE.out]
              exact ⟨rfl, HK.out, (CurIs.setOff (CurIs.setOff (CurIs.setOff (CurIs.setOff HC5.out hcb hrb _) hcb hrb _) hcb hrb _) hcb hrb _), (Chg.setNew (Chg.setNew (Chg.setNew (Chg.setNew HG5.out (show w.heap.size ≤ b0 by have := HB0.out; omega) _) (show w.heap.size ≤ b0 by have := HB0.out; omega) _) (show w.heap.size ≤ b0 by have := HB0.out; omega) _) (show w.heap.size ≤ b0 by have := HB0.out; omega) _)⟩
          | false =>
            have HF : Hid (Calls Tryz.prog 131 #[.pointer (some ⟨cb, 0, none⟩), .bool false, .int .i64 5] w3 (CurR (.tuple #[]) (failS (headerMiss x) 5 _) cb rb s w3)) := Lib.hid (by have h := HF.out; rw [show headerMiss x = false by simp [headerMiss, q1, q3, q2]] at h ⊢; exact h)
            go_wp2_with fail
            refine HF.out.mono ?_
            rintro e w5 ⟨rfl, hc, hg⟩
            have HC5 := Lib.hid hc
            have HG5 := Lib.hid (HG.out.trans hg)
            have RES5 : Hid (w5.heap[b0]? = some (.cells #[.int .u64 0, .string ⟨#[]⟩, .string ⟨#[]⟩, .string ⟨#[]⟩] 78 (0, 0))) := Lib.hid ((hg.block _ (lt_of_block RES.out) (by omega) (by omega)).trans RES.out)
            obtain ⟨_, hth, -⟩ := header_of_rec (REC.out.cur hg (by omega) (by omega)) HK.out
            have k0 : w5.cell? ⟨b0 + 1, 0, none⟩ = some (.int .u64 (x 0).n) := block_cell hth 0
            have k1 : w5.cell? ⟨b0 + 1, 1, none⟩ = some (.string (x 1).s) := block_cell hth 1
            have k2 : w5.cell? ⟨b0 + 1, 2, none⟩ = some (.string (x 2).s) := block_cell hth 2
            have k3 : w5.cell? ⟨b0 + 1, 3, none⟩ = some (.string (x 3).s) := block_cell hth 3
            have g0 : ∀ o, w5.cell? ⟨b0, o, none⟩ = _ := block_cell RES5.out
            have g1 : ∀ o, w5.frozen? ⟨b0, o, none⟩ = false := block_free RES5.out
            have g2 : b0 < w5.heap.size := lt_of_block RES5.out
            clear hc hg hth m1 m3 m2
            go_wp2
            have hb := (block_setCell (block_setCell (block_setCell (block_setCell RES5.out (o := 0) (.int .u64 (x 0).n)) (o := 1) (.string (x 1).s)) (o := 2) (.string (x 2).s)) (o := 3) (.string (x 3).s))
            have d : ∀ o, _ = _ := block_cell hb
            refine bodyPost_ret (v := .agg (cellsHeader x)) ?_ rfl ?_
            · simp [results, Tryz.results91, go_sem, d]
            · rw [HE.out]
              exact ⟨rfl, HK.out, (CurIs.setOff (CurIs.setOff (CurIs.setOff (CurIs.setOff HC5.out hcb hrb _) hcb hrb _) hcb hrb _) hcb hrb _), (Chg.setNew (Chg.setNew (Chg.setNew (Chg.setNew HG5.out (show w.heap.size ≤ b0 by have := HB0.out; omega) _) (show w.heap.size ≤ b0 by have := HB0.out; omega) _) (show w.heap.size ≤ b0 by have := HB0.out; omega) _) (show w.heap.size ≤ b0 by have := HB0.out; omega) _)⟩
end Go.Proofs.YtihiaopilnjonaaGreatDoor
namespace Go.Proofs.YtihiaopilnjonaaGreatDoor
open Go.RowKit
set_option linter.unusedSimpArgs false
set_option linter.unusedVariables false
theorem begin_any (s : ByteArray) (w : World) (hs : s.size ≤ 140737488355328) : Calls Tryz.prog 68 #[.string s] w fun e w' => ∃ cb rb, e = .returned (.pointer (some ⟨cb, 0, none⟩)) ∧ CurIs w' cb rb s (.ok 0) ∧ w.heap.size ≤ rb ∧ w.heap.size ≤ cb ∧ Below w.heap.size w w' := by
  go_enter Tryz.func68, Tryz.ntmps68
  go_wp2_with fail
  refine (refNew_any w s 10240).mono ?_
  rintro e w1 ⟨rfl, hw1⟩
  have hm : max (10240 : Int) 0 = 10240 := by decide
  rw [hm] at hw1
  have R1 : Hid (RefB w1 w.heap.size s 0 10240) := Lib.hid (by rw [hw1]; exact heap_alloc_new _ _)
  have B1 : Hid (Below w.heap.size w w1) := Lib.hid (by rw [hw1]; exact balloc (Below.refl _ _) _)
  have hs1 : w1.heap.size = w.heap.size + 1 := by rw [hw1]; simp
  clear hw1
  go_wp2
  go_ret
  exact ⟨w.heap.size + 1, w.heap.size, rfl, ⟨alloc_new_at _ hs1, by omega, hs, block_alloc R1.out _, Nat.zero_le _⟩, Nat.le_refl _, by omega, balloc B1.out _⟩
def endS (s : ByteArray) : Cst → Cst
  | .ok a => if a < s.size then .error (5, a) else .ok a
  | .error f => .error f
set_option maxRecDepth 100000 in
set_option maxHeartbeats 4000000 in
theorem cend_any (cb rb : Nat) (s : ByteArray) (σ : Cst) (w : World) (h : CurIs w cb rb s σ) :
    Calls Tryz.prog 70 #[.pointer (some ⟨cb, 0, none⟩)] w fun e w' => e = .returned (.agg #[.int .i64 (endS s σ).flt.1, .int .i64 (endS s σ).flt.2]) ∧ CurIs w' cb rb s (endS s σ) ∧ Chg rb cb w w' := by
  have H := Lib.hid h
  have HB := Lib.hid (fun (w' : World) (hb : Below w.heap.size w w') => bad_any cb rb s σ w' (h.below hb))
  have hcs := h.clt
  have hrs := h.rlt
  clear h
  cases σ with
  | error f =>
    simp only [isBad] at HB
    go_enter Tryz.func70, Tryz.ntmps70
    go_upto_region 1 with fail
    obtain ⟨W, hW⟩ : ∃ W, w.alloc (.cells #[.int .i64 0, .int .i64 0] 63) = W := ⟨_, rfl⟩
    have WB : Hid (Below w.heap.size w W) := Lib.hid (by rw [← hW]; exact balloc (Below.refl _ _) _)
    have W0 : Hid (W.heap[w.heap.size]? = some (.cells #[.int .i64 0, .int .i64 0] 63 (0, 0))) := Lib.hid (by rw [← hW]; exact heap_alloc_new _ _)
    have HB : Hid (∀ w', Below W.heap.size W w' → Calls Tryz.prog 127 #[.pointer (some ⟨cb, 0, none⟩)] w' fun e w'' => e = .returned (.bool true) ∧ w'' = w') := Lib.hid (fun w' hb => HB.out w' (bnext WB.out hb))
    rw [hW]
    clear hW
    refine wp_region_all 1000 (none) (phis [fun u _ => u = (.pointer (some ⟨cb, 0, none⟩)), fun u _ => u = (.bool true), fun u _ => u = (.bool false), fun u _ => u = (.bool false), fun u _ => u = undef, fun u _ => u = undef, fun u _ => u = undef, fun u _ => u = undef, fun u _ => u = undef, fun u _ => u = undef, fun u _ => u = undef, fun u _ => u = undef, fun u _ => u = undef, fun u _ => u = undef, fun u _ => u = undef, fun u _ => u = undef, fun u _ => u = undef, fun u _ => u = undef, fun u _ => u = undef, fun u _ => u = undef, fun u _ => u = (.bool false)]) rfl (by kernel_rfl) (mono_of ⟨mono_eq, mono_eq, mono_eq, mono_eq, mono_eq, mono_eq, mono_eq, mono_eq, mono_eq, mono_eq, mono_eq, mono_eq, mono_eq, mono_eq, mono_eq, mono_eq, mono_eq, mono_eq, mono_eq, mono_eq, mono_eq, trivial⟩) (steps_of 21 ⟨?s0, ?s1, ?s2, ?s3, ?s4, ?s5, ?s6, ?s7, ?s8, ?s9, ?s10, ?s11, ?s12, ?s13, ?s14, ?s15, ?s16, ?s17, ?s18, ?s19, ?s20, trivial⟩) ?_
    case s0 =>
      refine step_val (v := (.pointer (some ⟨cb, 0, none⟩))) (fun av wv hE hS hO hD => ?_) (fun _ => rfl)
      have h0 : av.eval (.tmp 0) = (.pointer (some ⟨cb, 0, none⟩)) := hO.2.2 0 rfl
      have f0 := (ev_form av 0).symm.trans h0
      refine ⟨rfl, ?_⟩
      simp [go_sem, f0]
    case s1 =>
      refine step_wp (fun av wv hE hS hO hD => ?_)
      have d3 : av.eval (.tmp 3) = (.pointer (some ⟨cb, 0, none⟩)) := hD.1 rfl _ rfl
      have f3 := (ev_form av 3).symm.trans d3
      refine ⟨rfl, ?_⟩
      refine wp_of_call (v := .bool true) (by simp [go_sem, f3]) ((HB.out wv (of_drew hE)).mono (fun e w2 ⟨h1, h2⟩ => ⟨h1, by rw [h2]; exact Below.refl _ _⟩)) (fun w2 hb => ⟨_, rfl, es_of_ext hb, rfl⟩)
    case s2 =>
      refine step_val (v := (.bool false)) (fun av wv hE hS hO hD => ?_) (fun _ => rfl)
      have d4 : av.eval (.tmp 4) = (.bool true) := hD.1 rfl _ rfl
      have f4 := (ev_form av 4).symm.trans d4
      refine ⟨rfl, ?_⟩
      simp [go_sem, f4]
    case s3 =>
      refine step_val (v := (.bool false)) (fun av wv hE hS hO hD => ?_) (fun _ => rfl)
      have d5 : av.eval (.tmp 5) = (.bool false) := hD.1 rfl _ rfl
      have f5 := (ev_form av 5).symm.trans d5
      refine ⟨rfl, ?_⟩
      simp [go_sem, f5]
    case s4 =>
      refine step_skip (fun av wv hE hS hO hD => ?_) (fun _ => rfl)
      have h0 : av.eval (.tmp 0) = (.pointer (some ⟨cb, 0, none⟩)) := hO.2.2 0 rfl
      have f0 := (ev_form av 0).symm.trans h0
      have d6 : av.eval (.tmp 6) = (.bool false) := hD.1 rfl _ rfl
      have f6 := (ev_form av 6).symm.trans d6
      exact (wanted_of (d := 6) (b := false) (want := true) rfl rfl rfl d6)
    case s5 =>
      refine step_skip (fun av wv hE hS hO hD => ?_) (fun _ => rfl)
      have d7 : av.eval (.tmp 7) = (undef) := hD.1 rfl _ rfl
      have f7 := (ev_form av 7).symm.trans d7
      have d6 : av.eval (.tmp 6) = (.bool false) := hD.2.1 rfl _ rfl
      have f6 := (ev_form av 6).symm.trans d6
      exact (wanted_of (d := 6) (b := false) (want := true) rfl rfl rfl d6)
    case s6 =>
      refine step_skip (fun av wv hE hS hO hD => ?_) (fun _ => rfl)
      have d8 : av.eval (.tmp 8) = (undef) := hD.1 rfl _ rfl
      have f8 := (ev_form av 8).symm.trans d8
      have d6 : av.eval (.tmp 6) = (.bool false) := hD.2.1 rfl _ rfl
      have f6 := (ev_form av 6).symm.trans d6
      exact (wanted_of (d := 6) (b := false) (want := true) rfl rfl rfl d6)
    case s7 =>
      refine step_skip (fun av wv hE hS hO hD => ?_) (fun _ => rfl)
      have d9 : av.eval (.tmp 9) = (undef) := hD.1 rfl _ rfl
      have f9 := (ev_form av 9).symm.trans d9
      have d6 : av.eval (.tmp 6) = (.bool false) := hD.2.1 rfl _ rfl
      have f6 := (ev_form av 6).symm.trans d6
      exact (wanted_of (d := 6) (b := false) (want := true) rfl rfl rfl d6)
    case s8 =>
      refine step_skip (fun av wv hE hS hO hD => ?_) (fun _ => rfl)
      have d10 : av.eval (.tmp 10) = (undef) := hD.1 rfl _ rfl
      have f10 := (ev_form av 10).symm.trans d10
      have d6 : av.eval (.tmp 6) = (.bool false) := hD.2.1 rfl _ rfl
      have f6 := (ev_form av 6).symm.trans d6
      exact (wanted_of (d := 6) (b := false) (want := true) rfl rfl rfl d6)
    case s9 =>
      refine step_skip (fun av wv hE hS hO hD => ?_) (fun _ => rfl)
      have d11 : av.eval (.tmp 11) = (undef) := hD.1 rfl _ rfl
      have f11 := (ev_form av 11).symm.trans d11
      have d6 : av.eval (.tmp 6) = (.bool false) := hD.2.1 rfl _ rfl
      have f6 := (ev_form av 6).symm.trans d6
      exact (wanted_of (d := 6) (b := false) (want := true) rfl rfl rfl d6)
    case s10 =>
      refine step_skip (fun av wv hE hS hO hD => ?_) (fun _ => rfl)
      have d12 : av.eval (.tmp 12) = (undef) := hD.1 rfl _ rfl
      have f12 := (ev_form av 12).symm.trans d12
      have d6 : av.eval (.tmp 6) = (.bool false) := hD.2.1 rfl _ rfl
      have f6 := (ev_form av 6).symm.trans d6
      exact (wanted_of (d := 6) (b := false) (want := true) rfl rfl rfl d6)
    case s11 =>
      refine step_skip (fun av wv hE hS hO hD => ?_) (fun _ => rfl)
      have h0 : av.eval (.tmp 0) = (.pointer (some ⟨cb, 0, none⟩)) := hO.2.2 0 rfl
      have f0 := (ev_form av 0).symm.trans h0
      have d6 : av.eval (.tmp 6) = (.bool false) := hD.1 rfl _ rfl
      have f6 := (ev_form av 6).symm.trans d6
      exact (wanted_of (d := 6) (b := false) (want := true) rfl rfl rfl d6)
    case s12 =>
      refine step_skip (fun av wv hE hS hO hD => ?_) (fun _ => rfl)
      have d14 : av.eval (.tmp 14) = (undef) := hD.1 rfl _ rfl
      have f14 := (ev_form av 14).symm.trans d14
      have d6 : av.eval (.tmp 6) = (.bool false) := hD.2.1 rfl _ rfl
      have f6 := (ev_form av 6).symm.trans d6
      exact (wanted_of (d := 6) (b := false) (want := true) rfl rfl rfl d6)
    case s13 =>
      refine step_skip (fun av wv hE hS hO hD => ?_) (fun _ => rfl)
      have d15 : av.eval (.tmp 15) = (undef) := hD.1 rfl _ rfl
      have f15 := (ev_form av 15).symm.trans d15
      have d6 : av.eval (.tmp 6) = (.bool false) := hD.2.1 rfl _ rfl
      have f6 := (ev_form av 6).symm.trans d6
      exact (wanted_of (d := 6) (b := false) (want := true) rfl rfl rfl d6)
    case s14 =>
      refine step_skip (fun av wv hE hS hO hD => ?_) (fun _ => rfl)
      have d16 : av.eval (.tmp 16) = (undef) := hD.1 rfl _ rfl
      have f16 := (ev_form av 16).symm.trans d16
      have d6 : av.eval (.tmp 6) = (.bool false) := hD.2.1 rfl _ rfl
      have f6 := (ev_form av 6).symm.trans d6
      exact (wanted_of (d := 6) (b := false) (want := true) rfl rfl rfl d6)
    case s15 =>
      refine step_skip (fun av wv hE hS hO hD => ?_) (fun _ => rfl)
      have d17 : av.eval (.tmp 17) = (undef) := hD.1 rfl _ rfl
      have f17 := (ev_form av 17).symm.trans d17
      have d6 : av.eval (.tmp 6) = (.bool false) := hD.2.1 rfl _ rfl
      have f6 := (ev_form av 6).symm.trans d6
      exact (wanted_of (d := 6) (b := false) (want := true) rfl rfl rfl d6)
    case s16 =>
      refine step_skip (fun av wv hE hS hO hD => ?_) (fun _ => rfl)
      have d18 : av.eval (.tmp 18) = (undef) := hD.1 rfl _ rfl
      have f18 := (ev_form av 18).symm.trans d18
      have d6 : av.eval (.tmp 6) = (.bool false) := hD.2.1 rfl _ rfl
      have f6 := (ev_form av 6).symm.trans d6
      exact (wanted_of (d := 6) (b := false) (want := true) rfl rfl rfl d6)
    case s17 =>
      refine step_skip (fun av wv hE hS hO hD => ?_) (fun _ => rfl)
      have d19 : av.eval (.tmp 19) = (undef) := hD.1 rfl _ rfl
      have f19 := (ev_form av 19).symm.trans d19
      have d6 : av.eval (.tmp 6) = (.bool false) := hD.2.1 rfl _ rfl
      have f6 := (ev_form av 6).symm.trans d6
      exact (wanted_of (d := 6) (b := false) (want := true) rfl rfl rfl d6)
    case s18 =>
      refine step_skip (fun av wv hE hS hO hD => ?_) (fun _ => rfl)
      have d20 : av.eval (.tmp 20) = (undef) := hD.1 rfl _ rfl
      have f20 := (ev_form av 20).symm.trans d20
      have d6 : av.eval (.tmp 6) = (.bool false) := hD.2.1 rfl _ rfl
      have f6 := (ev_form av 6).symm.trans d6
      exact (wanted_of (d := 6) (b := false) (want := true) rfl rfl rfl d6)
    case s19 =>
      refine step_skip (fun av wv hE hS hO hD => ?_) (fun _ => rfl)
      have d13 : av.eval (.tmp 13) = (undef) := hD.1 rfl _ rfl
      have f13 := (ev_form av 13).symm.trans d13
      have d21 : av.eval (.tmp 21) = (undef) := hD.2.1 rfl _ rfl
      have f21 := (ev_form av 21).symm.trans d21
      have d6 : av.eval (.tmp 6) = (.bool false) := hD.2.2.1 rfl _ rfl
      have f6 := (ev_form av 6).symm.trans d6
      exact (wanted_of (d := 6) (b := false) (want := true) rfl rfl rfl d6)
    case s20 =>
      refine step_val (v := (.bool false)) (fun av wv hE hS hO hD => ?_) (fun _ => rfl)
      have d6 : av.eval (.tmp 6) = (.bool false) := hD.1 rfl _ rfl
      have f6 := (ev_form av 6).symm.trans d6
      have d22 : av.eval (.tmp 22) = (undef) := hD.2.1 rfl _ rfl
      have f22 := (ev_form av 22).symm.trans d22
      refine ⟨rfl, ?_⟩
      simp [go_sem, f6, f22]
    intro a' w' hE hO hall
    have hA := act_of_outer (ds := [3, 4, 5, 6, 7, 8, 9, 10, 11, 12, 13, 14, 15, 16, 17, 18, 19, 20, 21, 22, 23]) rfl hO (by kernel_rfl)
    have e3 : (fun u _ => u = (.pointer (some ⟨cb, 0, none⟩))) (a'.eval (.tmp 3)) w' := hall.1 _ rfl
    have e4 : (fun u _ => u = (.bool true)) (a'.eval (.tmp 4)) w' := hall.2.1 _ rfl
    have e5 : (fun u _ => u = (.bool false)) (a'.eval (.tmp 5)) w' := hall.2.2.1 _ rfl
    have e6 : (fun u _ => u = (.bool false)) (a'.eval (.tmp 6)) w' := hall.2.2.2.1 _ rfl
    have e7 : (fun u _ => u = undef) (a'.eval (.tmp 7)) w' := hall.2.2.2.2.1 _ rfl
    have e8 : (fun u _ => u = undef) (a'.eval (.tmp 8)) w' := hall.2.2.2.2.2.1 _ rfl
    have e9 : (fun u _ => u = undef) (a'.eval (.tmp 9)) w' := hall.2.2.2.2.2.2.1 _ rfl
    have e10 : (fun u _ => u = undef) (a'.eval (.tmp 10)) w' := hall.2.2.2.2.2.2.2.1 _ rfl
    have e11 : (fun u _ => u = undef) (a'.eval (.tmp 11)) w' := hall.2.2.2.2.2.2.2.2.1 _ rfl
    have e12 : (fun u _ => u = undef) (a'.eval (.tmp 12)) w' := hall.2.2.2.2.2.2.2.2.2.1 _ rfl
    have e13 : (fun u _ => u = undef) (a'.eval (.tmp 13)) w' := hall.2.2.2.2.2.2.2.2.2.2.1 _ rfl
    have e14 : (fun u _ => u = undef) (a'.eval (.tmp 14)) w' := hall.2.2.2.2.2.2.2.2.2.2.2.1 _ rfl
    have e15 : (fun u _ => u = undef) (a'.eval (.tmp 15)) w' := hall.2.2.2.2.2.2.2.2.2.2.2.2.1 _ rfl
    have e16 : (fun u _ => u = undef) (a'.eval (.tmp 16)) w' := hall.2.2.2.2.2.2.2.2.2.2.2.2.2.1 _ rfl
    have e17 : (fun u _ => u = undef) (a'.eval (.tmp 17)) w' := hall.2.2.2.2.2.2.2.2.2.2.2.2.2.2.1 _ rfl
    have e18 : (fun u _ => u = undef) (a'.eval (.tmp 18)) w' := hall.2.2.2.2.2.2.2.2.2.2.2.2.2.2.2.1 _ rfl
    have e19 : (fun u _ => u = undef) (a'.eval (.tmp 19)) w' := hall.2.2.2.2.2.2.2.2.2.2.2.2.2.2.2.2.1 _ rfl
    have e20 : (fun u _ => u = undef) (a'.eval (.tmp 20)) w' := hall.2.2.2.2.2.2.2.2.2.2.2.2.2.2.2.2.2.1 _ rfl
    have e21 : (fun u _ => u = undef) (a'.eval (.tmp 21)) w' := hall.2.2.2.2.2.2.2.2.2.2.2.2.2.2.2.2.2.2.1 _ rfl
    have e22 : (fun u _ => u = undef) (a'.eval (.tmp 22)) w' := hall.2.2.2.2.2.2.2.2.2.2.2.2.2.2.2.2.2.2.2.1 _ rfl
    have e23 : (fun u _ => u = (.bool false)) (a'.eval (.tmp 23)) w' := hall.2.2.2.2.2.2.2.2.2.2.2.2.2.2.2.2.2.2.2.2.1 _ rfl
    simp only [List.foldl_cons, List.foldl_nil, Act.put, List.setIfInBounds_toArray, List.set_cons_succ, List.set_cons_zero, e3, e4, e5, e6, e7, e8, e9, e10, e11, e12, e13, e14, e15, e16, e17, e18, e19, e20, e21, e22, e23] at hA
    clear hO hall e3 e4 e5 e6 e7 e8 e9 e10 e11 e12 e13 e14 e15 e16 e17 e18 e19 e20 e21 e22 e23
    subst hA
    have WW : Hid (Below W.heap.size W w') := Lib.hid (of_drew hE)
    have HW2 : Hid (CurIs w' cb rb s (.error f)) := Lib.hid ((H.out.below WB.out).below WW.out)
    have W2 : Hid (w'.heap[w.heap.size]? = some (.cells #[.int .i64 0, .int .i64 0] 63 (0, 0))) := Lib.hid ((WW.out.block _ (lt_of_block W0.out)).trans W0.out)
    have c1 : w'.cell? ⟨cb, 1, none⟩ = some (.int .i64 f.1) := block_cell HW2.out.c 1
    have c2 : w'.cell? ⟨cb, 2, none⟩ = some (.int .i64 f.2) := block_cell HW2.out.c 2
    have g0 : ∀ o, w'.cell? ⟨w.heap.size, o, none⟩ = _ := block_cell W2.out
    have g1 : ∀ o, w'.frozen? ⟨w.heap.size, o, none⟩ = false := block_free W2.out
    have g2 : w.heap.size < w'.heap.size := lt_of_block W2.out
    clear hE
    go_wp2
    have hb := block_setCell (block_setCell W2.out (o := 0) (.int .i64 f.1)) (o := 1) (.int .i64 f.2)
    have d : ∀ o, _ = _ := block_cell hb
    refine bodyPost_ret (v := .agg #[.int .i64 f.1, .int .i64 f.2]) ?_ rfl ?_
    · simp [results, Tryz.results70, go_sem, d]
    · exact ⟨rfl, (HW2.out.setOff hcs hrs _).setOff hcs hrs _, ((Chg.of_below (bnext WB.out WW.out)).setNew (Nat.le_refl _) _).setNew (Nat.le_refl _) _⟩
  | ok a =>
    simp only [isBad] at HB
    go_enter Tryz.func70, Tryz.ntmps70
    go_upto_region 1 with fail
    obtain ⟨W, hW⟩ : ∃ W, w.alloc (.cells #[.int .i64 0, .int .i64 0] 63) = W := ⟨_, rfl⟩
    have WB : Hid (Below w.heap.size w W) := Lib.hid (by rw [← hW]; exact balloc (Below.refl _ _) _)
    have W0 : Hid (W.heap[w.heap.size]? = some (.cells #[.int .i64 0, .int .i64 0] 63 (0, 0))) := Lib.hid (by rw [← hW]; exact heap_alloc_new _ _)
    have HB : Hid (∀ w', Below W.heap.size W w' → Calls Tryz.prog 127 #[.pointer (some ⟨cb, 0, none⟩)] w' fun e w'' => e = .returned (.bool false) ∧ w'' = w') := Lib.hid (fun w' hb => HB.out w' (bnext WB.out hb))
    rw [hW]
    clear hW
    have HW := Lib.hid (H.out.below WB.out)
    have c0 : W.cell? ⟨cb, 0, none⟩ = some (.pointer (some ⟨rb, 0, none⟩)) := block_cell HW.out.c 0
    have k0 : W.cell? ⟨rb, 1, none⟩ = some (.int .i64 a) := block_cell HW.out.st.1 1
    have k1 : W.cell? ⟨rb, 0, none⟩ = some (.string s) := block_cell HW.out.st.1 0
    have i1 : ((a : Int) < s.size) = ((a : Int) < s.size) := rfl
    refine wp_region_all 1000 (none) (phis [fun u _ => u = (.pointer (some ⟨cb, 0, none⟩)), fun u _ => u = (.bool false), fun u _ => u = (.bool true), fun u _ => u = (.bool true), fun u _ => u = (.pointer (some ⟨cb, 0, none⟩)), fun u _ => u = (.pointer (some ⟨cb, 0, none⟩)), fun u _ => u = (.pointer (some ⟨cb, 0, none⟩)), fun u _ => u = (.pointer (some ⟨rb, 0, none⟩)), fun u _ => u = (.pointer (some ⟨rb, 0, none⟩)), fun u _ => u = (.pointer (some ⟨rb, 1, none⟩)), fun u _ => u = (.int .i64 a), fun u _ => u = (.pointer (some ⟨cb, 0, none⟩)), fun u _ => u = (.pointer (some ⟨cb, 0, none⟩)), fun u _ => u = (.pointer (some ⟨cb, 0, none⟩)), fun u _ => u = (.pointer (some ⟨rb, 0, none⟩)), fun u _ => u = (.pointer (some ⟨rb, 0, none⟩)), fun u _ => u = (.pointer (some ⟨rb, 0, none⟩)), fun u _ => u = (.string s), fun u _ => u = (.int .i64 s.size), fun u _ => u = (.bool (decide ((a : Int) < s.size))), fun u _ => u = (.bool (decide ((a : Int) < s.size)))]) rfl (by kernel_rfl) (mono_of ⟨mono_eq, mono_eq, mono_eq, mono_eq, mono_eq, mono_eq, mono_eq, mono_eq, mono_eq, mono_eq, mono_eq, mono_eq, mono_eq, mono_eq, mono_eq, mono_eq, mono_eq, mono_eq, mono_eq, mono_eq, mono_eq, trivial⟩) (steps_of 21 ⟨?s0, ?s1, ?s2, ?s3, ?s4, ?s5, ?s6, ?s7, ?s8, ?s9, ?s10, ?s11, ?s12, ?s13, ?s14, ?s15, ?s16, ?s17, ?s18, ?s19, ?s20, trivial⟩) ?_
    case s0 =>
      refine step_val (v := (.pointer (some ⟨cb, 0, none⟩))) (fun av wv hE hS hO hD => ?_) (fun _ => rfl)
      have h0 : av.eval (.tmp 0) = (.pointer (some ⟨cb, 0, none⟩)) := hO.2.2 0 rfl
      have f0 := (ev_form av 0).symm.trans h0
      refine ⟨rfl, ?_⟩
      simp [go_sem, f0, i1]
    case s1 =>
      refine step_wp (fun av wv hE hS hO hD => ?_)
      have d3 : av.eval (.tmp 3) = (.pointer (some ⟨cb, 0, none⟩)) := hD.1 rfl _ rfl
      have f3 := (ev_form av 3).symm.trans d3
      refine ⟨rfl, ?_⟩
      refine wp_of_call (v := .bool false) (by simp [go_sem, f3]) ((HB.out wv (of_drew hE)).mono (fun e w2 ⟨h1, h2⟩ => ⟨h1, by rw [h2]; exact Below.refl _ _⟩)) (fun w2 hb => ⟨_, rfl, es_of_ext hb, rfl⟩)
    case s2 =>
      refine step_val (v := (.bool true)) (fun av wv hE hS hO hD => ?_) (fun _ => rfl)
      have d4 : av.eval (.tmp 4) = (.bool false) := hD.1 rfl _ rfl
      have f4 := (ev_form av 4).symm.trans d4
      refine ⟨rfl, ?_⟩
      simp [go_sem, f4, i1]
    case s3 =>
      refine step_val (v := (.bool true)) (fun av wv hE hS hO hD => ?_) (fun _ => rfl)
      have d5 : av.eval (.tmp 5) = (.bool true) := hD.1 rfl _ rfl
      have f5 := (ev_form av 5).symm.trans d5
      refine ⟨rfl, ?_⟩
      simp [go_sem, f5, i1]
    case s4 =>
      refine step_val (v := (.pointer (some ⟨cb, 0, none⟩))) (fun av wv hE hS hO hD => ?_) (fun _ => rfl)
      have h0 : av.eval (.tmp 0) = (.pointer (some ⟨cb, 0, none⟩)) := hO.2.2 0 rfl
      have f0 := (ev_form av 0).symm.trans h0
      have d6 : av.eval (.tmp 6) = (.bool true) := hD.1 rfl _ rfl
      have f6 := (ev_form av 6).symm.trans d6
      refine ⟨(wanted_of (d := 6) (b := true) (want := true) rfl rfl rfl d6), ?_⟩
      simp [go_sem, f0, f6, i1]
    case s5 =>
      refine step_val (v := (.pointer (some ⟨cb, 0, none⟩))) (fun av wv hE hS hO hD => ?_) (fun _ => rfl)
      have d7 : av.eval (.tmp 7) = (.pointer (some ⟨cb, 0, none⟩)) := hD.1 rfl _ rfl
      have f7 := (ev_form av 7).symm.trans d7
      have d6 : av.eval (.tmp 6) = (.bool true) := hD.2.1 rfl _ rfl
      have f6 := (ev_form av 6).symm.trans d6
      refine ⟨(wanted_of (d := 6) (b := true) (want := true) rfl rfl rfl d6), ?_⟩
      simp [go_sem, f7, f6, i1]
    case s6 =>
      refine step_val (v := (.pointer (some ⟨cb, 0, none⟩))) (fun av wv hE hS hO hD => ?_) (fun _ => rfl)
      have d8 : av.eval (.tmp 8) = (.pointer (some ⟨cb, 0, none⟩)) := hD.1 rfl _ rfl
      have f8 := (ev_form av 8).symm.trans d8
      have d6 : av.eval (.tmp 6) = (.bool true) := hD.2.1 rfl _ rfl
      have f6 := (ev_form av 6).symm.trans d6
      refine ⟨(wanted_of (d := 6) (b := true) (want := true) rfl rfl rfl d6), ?_⟩
      simp [go_sem, f8, f6, i1]
    case s7 =>
      refine step_val (v := (.pointer (some ⟨rb, 0, none⟩))) (fun av wv hE hS hO hD => ?_) (fun _ => rfl)
      have d9 : av.eval (.tmp 9) = (.pointer (some ⟨cb, 0, none⟩)) := hD.1 rfl _ rfl
      have f9 := (ev_form av 9).symm.trans d9
      have d6 : av.eval (.tmp 6) = (.bool true) := hD.2.1 rfl _ rfl
      have f6 := (ev_form av 6).symm.trans d6
      have c0 := extB_cell hE (by simp) c0
      have k0 := extB_cell hE (by simp) k0
      have k1 := extB_cell hE (by simp) k1
      refine ⟨(wanted_of (d := 6) (b := true) (want := true) rfl rfl rfl d6), ?_⟩
      simp [go_sem, f9, f6, c0, k0, k1, i1]
    case s8 =>
      refine step_val (v := (.pointer (some ⟨rb, 0, none⟩))) (fun av wv hE hS hO hD => ?_) (fun _ => rfl)
      have d10 : av.eval (.tmp 10) = (.pointer (some ⟨rb, 0, none⟩)) := hD.1 rfl _ rfl
      have f10 := (ev_form av 10).symm.trans d10
      have d6 : av.eval (.tmp 6) = (.bool true) := hD.2.1 rfl _ rfl
      have f6 := (ev_form av 6).symm.trans d6
      refine ⟨(wanted_of (d := 6) (b := true) (want := true) rfl rfl rfl d6), ?_⟩
      simp [go_sem, f10, f6, i1]
    case s9 =>
      refine step_val (v := (.pointer (some ⟨rb, 1, none⟩))) (fun av wv hE hS hO hD => ?_) (fun _ => rfl)
      have d11 : av.eval (.tmp 11) = (.pointer (some ⟨rb, 0, none⟩)) := hD.1 rfl _ rfl
      have f11 := (ev_form av 11).symm.trans d11
      have d6 : av.eval (.tmp 6) = (.bool true) := hD.2.1 rfl _ rfl
      have f6 := (ev_form av 6).symm.trans d6
      refine ⟨(wanted_of (d := 6) (b := true) (want := true) rfl rfl rfl d6), ?_⟩
      simp [go_sem, f11, f6, i1]
    case s10 =>
      refine step_val (v := (.int .i64 a)) (fun av wv hE hS hO hD => ?_) (fun _ => rfl)
      have d12 : av.eval (.tmp 12) = (.pointer (some ⟨rb, 1, none⟩)) := hD.1 rfl _ rfl
      have f12 := (ev_form av 12).symm.trans d12
      have d6 : av.eval (.tmp 6) = (.bool true) := hD.2.1 rfl _ rfl
      have f6 := (ev_form av 6).symm.trans d6
      have c0 := extB_cell hE (by simp) c0
      have k0 := extB_cell hE (by simp) k0
      have k1 := extB_cell hE (by simp) k1
      refine ⟨(wanted_of (d := 6) (b := true) (want := true) rfl rfl rfl d6), ?_⟩
      simp [go_sem, f12, f6, c0, k0, k1, i1]
    case s11 =>
      refine step_val (v := (.pointer (some ⟨cb, 0, none⟩))) (fun av wv hE hS hO hD => ?_) (fun _ => rfl)
      have h0 : av.eval (.tmp 0) = (.pointer (some ⟨cb, 0, none⟩)) := hO.2.2 0 rfl
      have f0 := (ev_form av 0).symm.trans h0
      have d6 : av.eval (.tmp 6) = (.bool true) := hD.1 rfl _ rfl
      have f6 := (ev_form av 6).symm.trans d6
      refine ⟨(wanted_of (d := 6) (b := true) (want := true) rfl rfl rfl d6), ?_⟩
      simp [go_sem, f0, f6, i1]
    case s12 =>
      refine step_val (v := (.pointer (some ⟨cb, 0, none⟩))) (fun av wv hE hS hO hD => ?_) (fun _ => rfl)
      have d14 : av.eval (.tmp 14) = (.pointer (some ⟨cb, 0, none⟩)) := hD.1 rfl _ rfl
      have f14 := (ev_form av 14).symm.trans d14
      have d6 : av.eval (.tmp 6) = (.bool true) := hD.2.1 rfl _ rfl
      have f6 := (ev_form av 6).symm.trans d6
      refine ⟨(wanted_of (d := 6) (b := true) (want := true) rfl rfl rfl d6), ?_⟩
      simp [go_sem, f14, f6, i1]
    case s13 =>
      refine step_val (v := (.pointer (some ⟨cb, 0, none⟩))) (fun av wv hE hS hO hD => ?_) (fun _ => rfl)
      have d15 : av.eval (.tmp 15) = (.pointer (some ⟨cb, 0, none⟩)) := hD.1 rfl _ rfl
      have f15 := (ev_form av 15).symm.trans d15
      have d6 : av.eval (.tmp 6) = (.bool true) := hD.2.1 rfl _ rfl
      have f6 := (ev_form av 6).symm.trans d6
      refine ⟨(wanted_of (d := 6) (b := true) (want := true) rfl rfl rfl d6), ?_⟩
      simp [go_sem, f15, f6, i1]
    case s14 =>
      refine step_val (v := (.pointer (some ⟨rb, 0, none⟩))) (fun av wv hE hS hO hD => ?_) (fun _ => rfl)
      have d16 : av.eval (.tmp 16) = (.pointer (some ⟨cb, 0, none⟩)) := hD.1 rfl _ rfl
      have f16 := (ev_form av 16).symm.trans d16
      have d6 : av.eval (.tmp 6) = (.bool true) := hD.2.1 rfl _ rfl
      have f6 := (ev_form av 6).symm.trans d6
      have c0 := extB_cell hE (by simp) c0
      have k0 := extB_cell hE (by simp) k0
      have k1 := extB_cell hE (by simp) k1
      refine ⟨(wanted_of (d := 6) (b := true) (want := true) rfl rfl rfl d6), ?_⟩
      simp [go_sem, f16, f6, c0, k0, k1, i1]
    case s15 =>
      refine step_val (v := (.pointer (some ⟨rb, 0, none⟩))) (fun av wv hE hS hO hD => ?_) (fun _ => rfl)
      have d17 : av.eval (.tmp 17) = (.pointer (some ⟨rb, 0, none⟩)) := hD.1 rfl _ rfl
      have f17 := (ev_form av 17).symm.trans d17
      have d6 : av.eval (.tmp 6) = (.bool true) := hD.2.1 rfl _ rfl
      have f6 := (ev_form av 6).symm.trans d6
      refine ⟨(wanted_of (d := 6) (b := true) (want := true) rfl rfl rfl d6), ?_⟩
      simp [go_sem, f17, f6, i1]
    case s16 =>
      refine step_val (v := (.pointer (some ⟨rb, 0, none⟩))) (fun av wv hE hS hO hD => ?_) (fun _ => rfl)
      have d18 : av.eval (.tmp 18) = (.pointer (some ⟨rb, 0, none⟩)) := hD.1 rfl _ rfl
      have f18 := (ev_form av 18).symm.trans d18
      have d6 : av.eval (.tmp 6) = (.bool true) := hD.2.1 rfl _ rfl
      have f6 := (ev_form av 6).symm.trans d6
      refine ⟨(wanted_of (d := 6) (b := true) (want := true) rfl rfl rfl d6), ?_⟩
      simp [go_sem, f18, f6, i1]
    case s17 =>
      refine step_val (v := (.string s)) (fun av wv hE hS hO hD => ?_) (fun _ => rfl)
      have d19 : av.eval (.tmp 19) = (.pointer (some ⟨rb, 0, none⟩)) := hD.1 rfl _ rfl
      have f19 := (ev_form av 19).symm.trans d19
      have d6 : av.eval (.tmp 6) = (.bool true) := hD.2.1 rfl _ rfl
      have f6 := (ev_form av 6).symm.trans d6
      have c0 := extB_cell hE (by simp) c0
      have k0 := extB_cell hE (by simp) k0
      have k1 := extB_cell hE (by simp) k1
      refine ⟨(wanted_of (d := 6) (b := true) (want := true) rfl rfl rfl d6), ?_⟩
      simp [go_sem, f19, f6, c0, k0, k1, i1]
    case s18 =>
      refine step_val (v := (.int .i64 s.size)) (fun av wv hE hS hO hD => ?_) (fun _ => rfl)
      have d20 : av.eval (.tmp 20) = (.string s) := hD.1 rfl _ rfl
      have f20 := (ev_form av 20).symm.trans d20
      have d6 : av.eval (.tmp 6) = (.bool true) := hD.2.1 rfl _ rfl
      have f6 := (ev_form av 6).symm.trans d6
      refine ⟨(wanted_of (d := 6) (b := true) (want := true) rfl rfl rfl d6), ?_⟩
      simp [go_sem, f20, f6, i1]
    case s19 =>
      refine step_val (v := (.bool (decide ((a : Int) < s.size)))) (fun av wv hE hS hO hD => ?_) (fun _ => rfl)
      have d13 : av.eval (.tmp 13) = (.int .i64 a) := hD.1 rfl _ rfl
      have f13 := (ev_form av 13).symm.trans d13
      have d21 : av.eval (.tmp 21) = (.int .i64 s.size) := hD.2.1 rfl _ rfl
      have f21 := (ev_form av 21).symm.trans d21
      have d6 : av.eval (.tmp 6) = (.bool true) := hD.2.2.1 rfl _ rfl
      have f6 := (ev_form av 6).symm.trans d6
      refine ⟨(wanted_of (d := 6) (b := true) (want := true) rfl rfl rfl d6), ?_⟩
      simp [go_sem, f13, f21, f6, i1]
    case s20 =>
      refine step_val (v := (.bool (decide ((a : Int) < s.size)))) (fun av wv hE hS hO hD => ?_) (fun _ => rfl)
      have d6 : av.eval (.tmp 6) = (.bool true) := hD.1 rfl _ rfl
      have f6 := (ev_form av 6).symm.trans d6
      have d22 : av.eval (.tmp 22) = (.bool (decide ((a : Int) < s.size))) := hD.2.1 rfl _ rfl
      have f22 := (ev_form av 22).symm.trans d22
      refine ⟨rfl, ?_⟩
      simp [go_sem, f6, f22, i1]
    intro a' w' hE hO hall
    have hA := act_of_outer (ds := [3, 4, 5, 6, 7, 8, 9, 10, 11, 12, 13, 14, 15, 16, 17, 18, 19, 20, 21, 22, 23]) rfl hO (by kernel_rfl)
    have e3 : (fun u _ => u = (.pointer (some ⟨cb, 0, none⟩))) (a'.eval (.tmp 3)) w' := hall.1 _ rfl
    have e4 : (fun u _ => u = (.bool false)) (a'.eval (.tmp 4)) w' := hall.2.1 _ rfl
    have e5 : (fun u _ => u = (.bool true)) (a'.eval (.tmp 5)) w' := hall.2.2.1 _ rfl
    have e6 : (fun u _ => u = (.bool true)) (a'.eval (.tmp 6)) w' := hall.2.2.2.1 _ rfl
    have e7 : (fun u _ => u = (.pointer (some ⟨cb, 0, none⟩))) (a'.eval (.tmp 7)) w' := hall.2.2.2.2.1 _ rfl
    have e8 : (fun u _ => u = (.pointer (some ⟨cb, 0, none⟩))) (a'.eval (.tmp 8)) w' := hall.2.2.2.2.2.1 _ rfl
    have e9 : (fun u _ => u = (.pointer (some ⟨cb, 0, none⟩))) (a'.eval (.tmp 9)) w' := hall.2.2.2.2.2.2.1 _ rfl
    have e10 : (fun u _ => u = (.pointer (some ⟨rb, 0, none⟩))) (a'.eval (.tmp 10)) w' := hall.2.2.2.2.2.2.2.1 _ rfl
    have e11 : (fun u _ => u = (.pointer (some ⟨rb, 0, none⟩))) (a'.eval (.tmp 11)) w' := hall.2.2.2.2.2.2.2.2.1 _ rfl
    have e12 : (fun u _ => u = (.pointer (some ⟨rb, 1, none⟩))) (a'.eval (.tmp 12)) w' := hall.2.2.2.2.2.2.2.2.2.1 _ rfl
    have e13 : (fun u _ => u = (.int .i64 a)) (a'.eval (.tmp 13)) w' := hall.2.2.2.2.2.2.2.2.2.2.1 _ rfl
    have e14 : (fun u _ => u = (.pointer (some ⟨cb, 0, none⟩))) (a'.eval (.tmp 14)) w' := hall.2.2.2.2.2.2.2.2.2.2.2.1 _ rfl
    have e15 : (fun u _ => u = (.pointer (some ⟨cb, 0, none⟩))) (a'.eval (.tmp 15)) w' := hall.2.2.2.2.2.2.2.2.2.2.2.2.1 _ rfl
    have e16 : (fun u _ => u = (.pointer (some ⟨cb, 0, none⟩))) (a'.eval (.tmp 16)) w' := hall.2.2.2.2.2.2.2.2.2.2.2.2.2.1 _ rfl
    have e17 : (fun u _ => u = (.pointer (some ⟨rb, 0, none⟩))) (a'.eval (.tmp 17)) w' := hall.2.2.2.2.2.2.2.2.2.2.2.2.2.2.1 _ rfl
    have e18 : (fun u _ => u = (.pointer (some ⟨rb, 0, none⟩))) (a'.eval (.tmp 18)) w' := hall.2.2.2.2.2.2.2.2.2.2.2.2.2.2.2.1 _ rfl
    have e19 : (fun u _ => u = (.pointer (some ⟨rb, 0, none⟩))) (a'.eval (.tmp 19)) w' := hall.2.2.2.2.2.2.2.2.2.2.2.2.2.2.2.2.1 _ rfl
    have e20 : (fun u _ => u = (.string s)) (a'.eval (.tmp 20)) w' := hall.2.2.2.2.2.2.2.2.2.2.2.2.2.2.2.2.2.1 _ rfl
    have e21 : (fun u _ => u = (.int .i64 s.size)) (a'.eval (.tmp 21)) w' := hall.2.2.2.2.2.2.2.2.2.2.2.2.2.2.2.2.2.2.1 _ rfl
    have e22 : (fun u _ => u = (.bool (decide ((a : Int) < s.size)))) (a'.eval (.tmp 22)) w' := hall.2.2.2.2.2.2.2.2.2.2.2.2.2.2.2.2.2.2.2.1 _ rfl
    have e23 : (fun u _ => u = (.bool (decide ((a : Int) < s.size)))) (a'.eval (.tmp 23)) w' := hall.2.2.2.2.2.2.2.2.2.2.2.2.2.2.2.2.2.2.2.2.1 _ rfl
    simp only [List.foldl_cons, List.foldl_nil, Act.put, List.setIfInBounds_toArray, List.set_cons_succ, List.set_cons_zero, e3, e4, e5, e6, e7, e8, e9, e10, e11, e12, e13, e14, e15, e16, e17, e18, e19, e20, e21, e22, e23] at hA
    clear hO hall e3 e4 e5 e6 e7 e8 e9 e10 e11 e12 e13 e14 e15 e16 e17 e18 e19 e20 e21 e22 e23
    subst hA
    have WW : Hid (Below W.heap.size W w') := Lib.hid (of_drew hE)
    have HW2 : Hid (CurIs w' cb rb s (.ok a)) := Lib.hid ((H.out.below WB.out).below WW.out)
    have W2 : Hid (w'.heap[w.heap.size]? = some (.cells #[.int .i64 0, .int .i64 0] 63 (0, 0))) := Lib.hid ((WW.out.block _ (lt_of_block W0.out)).trans W0.out)
    by_cases hlt : a < s.size
    · have q1 : decide ((a : Int) < s.size) = true := decide_eq_true (by omega)
      have HS : Hid (endS s (.ok a) = .error (5, a)) := Lib.hid (by unfold endS; exact if_pos hlt)
      have g0 : ∀ o, w'.cell? ⟨w.heap.size, o, none⟩ = _ := block_cell W2.out
      have g1 : ∀ o, w'.frozen? ⟨w.heap.size, o, none⟩ = false := block_free W2.out
      have g2 : w.heap.size < w'.heap.size := lt_of_block W2.out
      have j0 : ∀ o, w'.cell? ⟨cb, o, none⟩ = _ := block_cell HW2.out.c
      have j1 : ∀ o, w'.frozen? ⟨cb, o, none⟩ = false := block_free HW2.out.c
      have j2 : cb < w'.heap.size := HW2.out.clt
      have j3 : ∀ o, w'.cell? ⟨rb, o, none⟩ = _ := block_cell HW2.out.st.1
      have hne := HW2.out.ne
      have hcw : cb ≠ w.heap.size := by omega
      clear hE hlt i1 c0 k0 k1
      rw [q1]
      go_wp2
      have hb := block_setCell (block_setCell (block_setCell_ne (block_setCell_ne W2.out (show w.heap.size ≠ (⟨cb, 1, none⟩ : Addr).block from fun e => hcw e.symm) (.int .i64 5)) (show w.heap.size ≠ (⟨cb, 2, none⟩ : Addr).block from fun e => hcw e.symm) (.int .i64 a)) (o := 0) (.int .i64 5)) (o := 1) (.int .i64 a)
      have d : ∀ o, _ = _ := block_cell hb
      refine bodyPost_ret (v := .agg #[.int .i64 5, .int .i64 a]) ?_ rfl ?_
      · simp [results, Tryz.results70, go_sem, d]
      · rw [HS.out]
        exact ⟨rfl, ((HW2.out.set (5, a) (show (5 : Int) ≠ 0 by decide)).setOff hcs hrs _).setOff hcs hrs _, (((((Chg.of_below (bnext WB.out WW.out)).set 1 _).set 2 _).setNew (Nat.le_refl _) _).setNew (Nat.le_refl _) _)⟩
    · have q1 : decide ((a : Int) < s.size) = false := decide_eq_false (by omega)
      have HS : Hid (endS s (.ok a) = .ok a) := Lib.hid (by unfold endS; exact if_neg hlt)
      have g0 : ∀ o, w'.cell? ⟨w.heap.size, o, none⟩ = _ := block_cell W2.out
      have g1 : ∀ o, w'.frozen? ⟨w.heap.size, o, none⟩ = false := block_free W2.out
      have g2 : w.heap.size < w'.heap.size := lt_of_block W2.out
      have c1 : w'.cell? ⟨cb, 1, none⟩ = some (.int .i64 0) := block_cell HW2.out.c 1
      have c2 : w'.cell? ⟨cb, 2, none⟩ = some (.int .i64 0) := block_cell HW2.out.c 2
      clear hE hlt i1 c0 k0 k1
      rw [q1]
      go_wp2
      have hb := block_setCell (block_setCell W2.out (o := 0) (.int .i64 0)) (o := 1) (.int .i64 0)
      have d : ∀ o, _ = _ := block_cell hb
      refine bodyPost_ret (v := .agg #[.int .i64 0, .int .i64 0]) ?_ rfl ?_
      · simp [results, Tryz.results70, go_sem, d]
      · rw [HS.out]
        exact ⟨rfl, (HW2.out.setOff hcs hrs _).setOff hcs hrs _, ((Chg.of_below (bnext WB.out WW.out)).setNew (Nat.le_refl _) _).setNew (Nat.le_refl _) _⟩
end Go.Proofs.YtihiaopilnjonaaGreatDoor
