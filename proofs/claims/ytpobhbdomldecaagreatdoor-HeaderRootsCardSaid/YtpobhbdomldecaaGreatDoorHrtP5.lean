/- Parts of the proof, one behind the other. -/
import Derived.Test.YtpobhbdomldecaaGreatDoorHrtP4
import Derived.Maps.AppendAt
import Derived.ArgAppend
import Derived.Laws.AppendOwnNone
import Derived.ProofKit
import Derived.OpenShut
import Derived.ShutString
import Derived.ChangeOld
import Derived.Deep.Slices
import Derived.Deep.Fields
import Derived.LaidMore
import Derived.LaidHandle
import Derived.Stop.Joined
import Derived.ChangeVars
import Derived.JoinedOf
import Derived.RowKitTokens
import Derived.ChangeMaps5
import Derived.Test.YtpobhbdomldecaaGreatDoorCards
import Derived.Test.YtpobhbdomldecaaGreatDoorTie
import Derived.SevenTiedAt
namespace Go.Proofs.YtpobhbdomldecaaGreatDoor
open Go.RowKit
set_option linter.unusedSimpArgs false
set_option linter.unusedVariables false
set_option maxRecDepth 100000 in
theorem digest1_yes (B : Nat) (r : Hdr) (xb : Nat) (w : World) (ht : PT B w) (ho : r.Ok) (h : hOk r = true) (hx : w.heap[xb]? = some (.cells #[.int .u64 r.rnd, .string r.prev, .string r.txns, .string r.seed] 33 (0, 0))) :
    Calls Tryz.prog 79 #[.pointer (some ⟨xb, 0, none⟩)] w fun e w' => e = .returned (.string (hdg r)) ∧ Below w.heap.size w w' := by
  have HW := Lib.hid (digest_yes B r w ht ho h)
  have c : ∀ o, w.cell? ⟨xb, o, none⟩ = _ := block_cell hx
  clear ht ho h hx
  go_enter Tryz.func79, Tryz.ntmps79
  go_wp2_with fail
  refine HW.out.mono ?_
  rintro e w1 ⟨rfl, hb⟩
  have HB := Lib.hid hb
  clear hb c
  go_wp2
  go_ret
  exact ⟨rfl, HB.out⟩
set_option maxRecDepth 100000 in
theorem digest1_no (B : Nat) (r : Hdr) (xb : Nat) (w : World) (ht : PT B w) (ho : r.Ok) (h : hOk r = false) (hx : w.heap[xb]? = some (.cells #[.int .u64 r.rnd, .string r.prev, .string r.txns, .string r.seed] 33 (0, 0))) :
    Calls Tryz.prog 79 #[.pointer (some ⟨xb, 0, none⟩)] w fun e w' => e = .panicked wrongC ∧ Below w.heap.size w w' := by
  have HW := Lib.hid (digest_no B r w ht ho h)
  have c : ∀ o, w.cell? ⟨xb, o, none⟩ = _ := block_cell hx
  clear ht ho h hx
  go_enter Tryz.func79, Tryz.ntmps79
  go_wp2_with fail
  refine HW.out.mono ?_
  rintro e w1 ⟨rfl, hb⟩
  have HB := Lib.hid hb
  clear hb c
  go_wp2
  exact ⟨rfl, rfl, HB.out⟩
set_option maxRecDepth 100000 in
theorem hdig_any (B : Nat) (r : Hdr) (w : World) (ht : PT B w) (ho : r.Ok) : Calls Tryz.prog 21 #[r.val] w (DgIs r w) := by
  have HT := Lib.hid ht
  have HO := Lib.hid ho
  clear ht ho
  by_cases h : hOk r = true
  · have HE : Hid (dgS r = hdg r ∧ dgE r = 0) := Lib.hid ⟨if_pos h, if_pos h⟩
    go_enter Tryz.func21, Tryz.ntmps21
    go_wp2_with fail
    refine (safely_yes 79 #[.pointer (some ⟨w.heap.size, 0, none⟩)] (hdg r) _ (fun _ _ => rfl) (fun w' hb => digest1_yes B r w.heap.size w' ((HT.out.below (balloc (Below.refl _ _) _)).below hb) HO.out h ((hb.block _ (by simp)).trans (heap_alloc_new _ _)))).mono ?_
    rintro e w1 ⟨rfl, hb⟩
    have HB : Hid (Below w.heap.size w w1) := Lib.hid (bnext (balloc (Below.refl _ _) _) hb)
    clear hb
    go_wp2
    go_ret2
    exact ⟨by rw [HE.out.1, HE.out.2]; rfl, HB.out⟩
  · have h : hOk r = false := by simpa using h
    have HE : Hid (dgS r = ⟨#[]⟩ ∧ dgE r = 2) := Lib.hid ⟨if_neg (by rw [h]; decide), if_neg (by rw [h]; decide)⟩
    go_enter Tryz.func21, Tryz.ntmps21
    go_wp2_with fail
    refine (safely_no 79 #[.pointer (some ⟨w.heap.size, 0, none⟩)] _ (fun _ _ => rfl) (fun w' hb => digest1_no B r w.heap.size w' ((HT.out.below (balloc (Below.refl _ _) _)).below hb) HO.out h ((hb.block _ (by simp)).trans (heap_alloc_new _ _)))).mono ?_
    rintro e w1 ⟨rfl, hb⟩
    have HB : Hid (Below w.heap.size w w1) := Lib.hid (bnext (balloc (Below.refl _ _) _) hb)
    clear hb
    go_wp2
    go_ret2
    exact ⟨by rw [HE.out.1, HE.out.2]; rfl, HB.out⟩
def BoxL (w : World) (xb : Nat) (a : Option Addr) (n cap : Nat) : Prop := w.heap[xb]? = some (.cells #[.slice a n cap] 22 (0, 0))
theorem BoxL.below {w w' : World} {xb : Nat} {a : Option Addr} {n cap : Nat} (h : BoxL w xb a n cap) (hb : Below w.heap.size w w') : BoxL w' xb a n cap := (hb.block _ (lt_of_block h)).trans h
set_option maxRecDepth 100000 in
theorem root1_yes (B : Nat) (l : List Hdr) (a : Option Addr) (cap xb : Nat) (w : World) (ht : PT B w) (hc : Hdrs w a l) (ho : ∀ i, (hnth l i).Ok) (hn : len l ≤ 100000) (h : elOk l = true) (hx : BoxL w xb a (len l) cap) :
    Calls Tryz.prog 68 #[.pointer (some ⟨xb, 0, none⟩)] w fun e w' => e = .returned (.string (hroot l)) ∧ Below w.heap.size w w' := by
  have HW := Lib.hid (elements_yes B l a cap w ht hc ho hn h)
  have HS := Lib.hid (elL_size h)
  have HL : Hid (len (elL l) ≤ 65536) := Lib.hid (by rw [elL_len]; have := (elOk_at h).2.1; omega)
  have c0 : w.cell? ⟨xb, 0, none⟩ = some (.slice a (len l) cap) := block_cell hx 0
  clear ht ho h hx hn hc
  go_enter Tryz.func68, Tryz.ntmps68
  go_wp2_with fail
  refine HW.out.mono ?_
  rintro e w1 ⟨v, rfl, ⟨a1, c1, rfl, hx, _, _⟩, hb⟩
  have HB := Lib.hid hb
  have HX := Lib.hid hx
  clear hb c0 hx
  go_wp2_with fail
  refine (hrootT_any (elL l) a1 c1 w1 HX.out HL.out (fun i hi => Nat.le_trans (HS.out i hi) (by decide))).mono ?_
  rintro e w2 ⟨rfl, hb⟩
  have HB := Lib.hid (bnext HB.out hb)
  clear hb
  go_wp2
  go_ret
  exact ⟨rfl, HB.out⟩
set_option maxRecDepth 100000 in
theorem root1_no (B : Nat) (l : List Hdr) (a : Option Addr) (cap xb : Nat) (w : World) (ht : PT B w) (hc : Hdrs w a l) (ho : ∀ i, (hnth l i).Ok) (hn : len l ≤ 100000) (h : elOk l = false) (hx : BoxL w xb a (len l) cap) :
    Calls Tryz.prog 68 #[.pointer (some ⟨xb, 0, none⟩)] w fun e w' => e = .panicked wrongC ∧ Below w.heap.size w w' := by
  have HW := Lib.hid (elements_no B l a cap w ht hc ho hn h)
  have c0 : w.cell? ⟨xb, 0, none⟩ = some (.slice a (len l) cap) := block_cell hx 0
  clear ht ho h hx hn hc
  go_enter Tryz.func68, Tryz.ntmps68
  go_wp2_with fail
  refine HW.out.mono ?_
  rintro e w1 ⟨rfl, hb⟩
  have HB := Lib.hid hb
  clear hb c0
  go_wp2
  exact ⟨rfl, rfl, HB.out⟩
set_option maxRecDepth 100000 in
theorem hroot_any (B : Nat) (l : List Hdr) (a : Option Addr) (cap : Nat) (w : World) (ht : PT B w) (hc : Hdrs w a l) (ho : ∀ i, (hnth l i).Ok) (hn : len l ≤ 100000) : Calls Tryz.prog 17 #[.slice a (len l) cap] w (RtIs l w) := by
  have HT := Lib.hid ht
  have HO := Lib.hid ho
  have HC := Lib.hid hc
  have HN := Lib.hid hn
  clear ht ho hc hn
  by_cases h : elOk l = true
  · have HE : Hid (rtS l = hroot l ∧ rtE l = 0) := Lib.hid ⟨if_pos h, if_pos h⟩
    go_enter Tryz.func17, Tryz.ntmps17
    go_wp2_with fail
    refine (safely_yes 68 #[.pointer (some ⟨w.heap.size, 0, none⟩)] (hroot l) _ (fun _ _ => rfl) (fun w' hb => root1_yes B l a cap w.heap.size w' ((HT.out.below (balloc (Below.refl _ _) _)).below hb) ((HC.out.below (balloc (Below.refl _ _) _)).below hb) HO.out HN.out h ((hb.block _ (by simp)).trans (heap_alloc_new _ _)))).mono ?_
    rintro e w1 ⟨rfl, hb⟩
    have HB : Hid (Below w.heap.size w w1) := Lib.hid (bnext (balloc (Below.refl _ _) _) hb)
    clear hb
    go_wp2
    go_ret2
    exact ⟨by rw [HE.out.1, HE.out.2]; rfl, HB.out⟩
  · have h : elOk l = false := by simpa using h
    have HE : Hid (rtS l = ⟨#[]⟩ ∧ rtE l = 2) := Lib.hid ⟨if_neg (by rw [h]; decide), if_neg (by rw [h]; decide)⟩
    go_enter Tryz.func17, Tryz.ntmps17
    go_wp2_with fail
    refine (safely_no 68 #[.pointer (some ⟨w.heap.size, 0, none⟩)] _ (fun _ _ => rfl) (fun w' hb => root1_no B l a cap w.heap.size w' ((HT.out.below (balloc (Below.refl _ _) _)).below hb) ((HC.out.below (balloc (Below.refl _ _) _)).below hb) HO.out HN.out h ((hb.block _ (by simp)).trans (heap_alloc_new _ _)))).mono ?_
    rintro e w1 ⟨rfl, hb⟩
    have HB : Hid (Below w.heap.size w w1) := Lib.hid (bnext (balloc (Below.refl _ _) _) hb)
    clear hb
    go_wp2
    go_ret2
    exact ⟨by rw [HE.out.1, HE.out.2]; rfl, HB.out⟩
set_option maxRecDepth 100000 in
theorem link1_any (B : Nat) (l : List Hdr) (a : Option Addr) (cap xb : Nat) (w : World) (ht : PT B w) (hc : Hdrs w a l) (ho : ∀ i, (hnth l i).Ok) (hn : len l ≤ 100000) (hx : BoxL w xb a (len l) cap) :
    Calls Tryz.prog 74 #[.pointer (some ⟨xb, 0, none⟩)] w fun e w' => (linkedH l = true ∧ e = .returned (.string ⟨#[]⟩) ∨ linkedH l = false ∧ e = .panicked wrongC) ∧ Below w.heap.size w w' := by
  have HT := Lib.hid ht
  have HC := Lib.hid hc
  have HO := Lib.hid ho
  have HN := Lib.hid hn
  have HX := Lib.hid hx
  have HE := Lib.hid (elements_any B l a cap w ht hc ho hn)
  have c0 : w.cell? ⟨xb, 0, none⟩ = some (.slice a (len l) cap) := block_cell hx 0
  clear ht hc ho hn hx
  go_enter Tryz.func74, Tryz.ntmps74
  go_wp2_with fail
  refine HE.out.mono ?_
  rintro e w1 ⟨hb, hh⟩
  have HB := Lib.hid hb
  rcases hh with ⟨hel, v, rfl, -⟩ | ⟨hel, rfl⟩
  · have HEL := Lib.hid hel
    have c1 : w1.cell? ⟨xb, 0, none⟩ = some (.slice a (len l) cap) := block_cell (HX.out.below hb) 0
    clear hb hel c0
    go_wp2_with fail
    refine (follow_any 77 #[] hangH a cap l w1 HN.out (HC.out.below HB.out) (fun _ _ => rfl) (fun i h0 h1 w9 hb => hang_any B _ _ w9 ((HT.out.below HB.out).below hb) (HO.out _) (HO.out _) (laysH_at (elOk_at HEL.out).2.2.2 (by omega)))).mono ?_
    rintro e w2 ⟨rfl, hb⟩
    have HB2 : Hid (Below w.heap.size w w2) := Lib.hid (bnext HB.out hb)
    clear hb c1
    cases hf : followH hangH l with
    | false =>
      have HL : Hid (linkedH l = false) := Lib.hid (by unfold linkedH; rw [hf]; simp)
      clear hf
      go_wp2_with fail
      refine (hmust_no _).mono ?_
      rintro e w3 ⟨rfl, rfl⟩
      go_wp2
      exact ⟨rfl, .inr ⟨HL.out, rfl⟩, HB2.out⟩
    | true =>
      have HL : Hid (linkedH l = true) := Lib.hid (by unfold linkedH; rw [hf, HEL.out]; rfl)
      clear hf
      go_wp2_with fail
      refine (hmust_yes _).mono ?_
      rintro e w3 ⟨rfl, rfl⟩
      go_wp2
      go_ret
      exact ⟨.inl ⟨HL.out, rfl⟩, HB2.out⟩
  · have HL : Hid (linkedH l = false) := Lib.hid (by unfold linkedH; rw [hel]; rfl)
    clear hb hel c0
    go_wp2
    exact ⟨rfl, .inr ⟨HL.out, rfl⟩, HB.out⟩
set_option maxRecDepth 100000 in
theorem hlinked_any (B : Nat) (l : List Hdr) (a : Option Addr) (cap : Nat) (w : World) (ht : PT B w) (hc : Hdrs w a l) (ho : ∀ i, (hnth l i).Ok) (hn : len l ≤ 100000) :
    Calls Tryz.prog 19 #[.slice a (len l) cap] w fun e w' => e = .returned (.bool (linkedH l)) ∧ Below w.heap.size w w' := by
  have H1 := Lib.hid (fun w' (hb : Below (w.alloc (.cells #[.slice a (len l) cap] 22)).heap.size (w.alloc (.cells #[.slice a (len l) cap] 22)) w') => link1_any B l a cap w.heap.size w' ((ht.below (balloc (Below.refl _ _) _)).below hb) ((hc.below (balloc (Below.refl _ _) _)).below hb) ho hn ((hb.block _ (by simp)).trans (heap_alloc_new _ _)))
  clear ht hc ho hn
  cases hl : linkedH l with
  | true =>
    go_enter Tryz.func19, Tryz.ntmps19
    go_wp2_with fail
    refine (safely_yes 74 #[.pointer (some ⟨w.heap.size, 0, none⟩)] ⟨#[]⟩ _ (fun _ _ => rfl) (fun w' hb => (H1.out w' hb).mono (fun e w2 hh => ⟨hh.1.elim (fun h => h.2) (fun h => absurd h.1 (by rw [hl]; decide)), hh.2⟩))).mono ?_
    rintro e w1 ⟨rfl, hb⟩
    have HB : Hid (Below w.heap.size w w1) := Lib.hid (bnext (balloc (Below.refl _ _) _) hb)
    clear hb hl
    go_wp2
    go_ret
    exact ⟨rfl, HB.out⟩
  | false =>
    go_enter Tryz.func19, Tryz.ntmps19
    go_wp2_with fail
    refine (safely_no 74 #[.pointer (some ⟨w.heap.size, 0, none⟩)] _ (fun _ _ => rfl) (fun w' hb => (H1.out w' hb).mono (fun e w2 hh => ⟨hh.1.elim (fun h => absurd h.1 (by rw [hl]; decide)) (fun h => h.2), hh.2⟩))).mono ?_
    rintro e w1 ⟨rfl, hb⟩
    have HB : Hid (Below w.heap.size w w1) := Lib.hid (bnext (balloc (Below.refl _ _) _) hb)
    clear hb hl
    go_wp2
    go_ret
    exact ⟨rfl, HB.out⟩
def BoxT (w : World) (xb : Nat) (a : Option Addr) (n cap : Nat) : Prop := w.heap[xb]? = some (.cells #[.slice a n cap] 36 (0, 0))
theorem BoxT.below {w w' : World} {xb : Nat} {a : Option Addr} {n cap : Nat} (h : BoxT w xb a n cap) (hb : Below w.heap.size w w') : BoxT w' xb a n cap := (hb.block _ (lt_of_block h)).trans h
theorem bods_no {l : List ByteArray} {m : Nat} (hm : m < len l) (h : ¬ (0 < (tth l m).size ∧ (tth l m).size ≤ 64)) : bodsOk l = false := by
  unfold bodsOk
  have : (l.all fun s => decide (0 < s.size) && decide (s.size ≤ 64)) = false := by
    rw [List.all_eq_false]
    refine ⟨tth l m, by rw [tth_eq l m hm]; exact List.getElem_mem hm, ?_⟩
    simp only [Bool.and_eq_true, decide_eq_true_eq]
    exact h
  rw [this]; simp
theorem bods_yes {l : List ByteArray} (hn : len l ≤ 64) (h : ∀ m, m < len l → 0 < (tth l m).size ∧ (tth l m).size ≤ 64) : bodsOk l = true := by
  unfold bodsOk
  rw [decide_eq_true hn, Bool.true_and, List.all_eq_true]
  intro x hx
  obtain ⟨i, hi, rfl⟩ := List.getElem_of_mem hx
  have := h i hi
  rw [tth_eq l i hi] at this
  simp [this.1, this.2]
set_option maxRecDepth 100000 in
set_option maxHeartbeats 4000000 in
theorem txns1_any (l : List ByteArray) (a : Option Addr) (cap xb : Nat) (w : World) (hn : len l ≤ 65536) (hc : Txts w a l) (hz : ∀ i, i < len l → (tth l i).size ≤ 1000000) (hx : BoxT w xb a (len l) cap) :
    Calls Tryz.prog 82 #[.pointer (some ⟨xb, 0, none⟩)] w fun e w' => (bodsOk l = true ∧ e = .returned (.string (treeR l)) ∨ bodsOk l = false ∧ e = .panicked wrongC) ∧ Below w.heap.size w w' := by
  have HC := Lib.hid hc
  have HN := Lib.hid hn
  have HZ := Lib.hid hz
  have c0 : w.cell? ⟨xb, 0, none⟩ = some (.slice a (len l) cap) := block_cell hx 0
  have HCX := Lib.hid c0
  clear hc hz hn hx
  by_cases h64 : len l ≤ 64
  · have c1 : (len l : Int) ≤ 64 := by omega
    have H64 := Lib.hid h64
    go_enter Tryz.func82, Tryz.ntmps82
    go_wp2_with fail
    refine (hmust_yes _).mono ?_
    rintro e w1 ⟨rfl, rfl⟩
    go_wp2
    go_loopg [10] (len l) (fun gg i wr => ∃ m : Nat, gg + m = len l ∧ i = .int .i64 (m : Nat) ∧ wr = w ∧ Hid (∀ j, j < m → 0 < (tth l j).size ∧ (tth l j).size ≤ 64))
    case atStart => exact ⟨0, rfl, rfl, rfl, Lib.hid (fun j hj => by omega)⟩
    case round =>
      obtain ⟨m, hm, rfl, rfl, HI⟩ := hrel
      by_cases hlt : m < len l
      · obtain ⟨b, off, rfl, e0⟩ := HC.out m hlt
        have hz := HZ.out m hlt
        have HLT := Lib.hid hlt
        obtain ⟨s, hs⟩ : ∃ s, tth l m = s := ⟨_, rfl⟩
        rw [hs] at e0 hz
        have HS := Lib.hid hs
        have b0 : (m : Int) < len l := by omega
        clear hs
        by_cases q1 : 0 < s.size ∧ s.size ≤ 64
        · have HG := Lib.hid q1
          have q2 : 0 < s.size := q1.1
          have q3 : (s.size : Int) ≤ 64 := by omega
          have HNN := HN.out
          clear q1
          go_wp2_with fail
          refine (hmust_yes _).mono ?_
          rintro e w1 ⟨rfl, rfl⟩
          clear q2 q3
          go_wp2
          go_roundg (gk - 1)
          case rel => exact ⟨m + 1, by omega, by go_num, rfl, Lib.hid (fun j hj => by
            by_cases e : j = m
            · subst e; rw [HS.out]; exact HG.out
            · exact HI.out j (by omega))⟩
          case measure => omega
        · have HNO : Hid (bodsOk l = false) := Lib.hid (bods_no HLT.out (by rw [HS.out]; exact q1))
          by_cases q2 : 0 < s.size
          · have q3 : ¬ (s.size : Int) ≤ 64 := by omega
            clear q1
            go_wp2_with fail
            refine (hmust_no _).mono ?_
            rintro e w1 ⟨rfl, rfl⟩
            go_wp2
            exact ⟨rfl, .inr ⟨HNO.out, rfl⟩, Below.refl _ _⟩
          · clear q1
            go_wp2_with fail
            refine (hmust_no _).mono ?_
            rintro e w1 ⟨rfl, rfl⟩
            go_wp2
            exact ⟨rfl, .inr ⟨HNO.out, rfl⟩, Below.refl _ _⟩
      · have b0 : ¬ (m : Int) < len l := by omega
        have HYE : Hid (bodsOk l = true) := Lib.hid (bods_yes H64.out (fun j hj => HI.out j (by omega)))
        go_wp2_with fail
        refine (hrootT_any l a cap _ HC.out HN.out (fun i hi => Nat.le_trans (HZ.out i hi) (by decide))).mono ?_
        rintro e w2 ⟨rfl, hb⟩
        have HB := Lib.hid hb
        clear hb
        go_wp2
        go_ret
        exact ⟨.inl ⟨HYE.out, rfl⟩, HB.out⟩
  · have c1 : ¬ (len l : Int) ≤ 64 := by omega
    have HNO : Hid (bodsOk l = false) := Lib.hid (by unfold bodsOk; rw [decide_eq_false h64]; rfl)
    go_enter Tryz.func82, Tryz.ntmps82
    go_wp2_with fail
    refine (hmust_no _).mono ?_
    rintro e w1 ⟨rfl, rfl⟩
    go_wp2
    exact ⟨rfl, .inr ⟨HNO.out, rfl⟩, Below.refl _ _⟩
set_option maxRecDepth 100000 in
theorem htxns_any (l : List ByteArray) (a : Option Addr) (cap : Nat) (w : World) (hn : len l ≤ 65536) (hc : Txts w a l) (hz : ∀ i, i < len l → (tth l i).size ≤ 1000000) :
    Calls Tryz.prog 24 #[.slice a (len l) cap] w (TxIs l w) := by
  have H1 := Lib.hid (fun w' (hb : Below (w.alloc (.cells #[.slice a (len l) cap] 36)).heap.size (w.alloc (.cells #[.slice a (len l) cap] 36)) w') => txns1_any l a cap w.heap.size w' hn ((hc.below (balloc (Below.refl _ _) _)).below hb) hz ((hb.block _ (by simp)).trans (heap_alloc_new _ _)))
  clear hc hz hn
  cases hl : bodsOk l with
  | true =>
    have HE : Hid (txS l = treeR l ∧ txE l = 0) := Lib.hid ⟨if_pos hl, if_pos hl⟩
    go_enter Tryz.func24, Tryz.ntmps24
    go_wp2_with fail
    refine (safely_yes 82 #[.pointer (some ⟨w.heap.size, 0, none⟩)] (treeR l) _ (fun _ _ => rfl) (fun w' hb => (H1.out w' hb).mono (fun e w2 hh => ⟨hh.1.elim (fun h => h.2) (fun h => absurd h.1 (by rw [hl]; decide)), hh.2⟩))).mono ?_
    rintro e w1 ⟨rfl, hb⟩
    have HB : Hid (Below w.heap.size w w1) := Lib.hid (bnext (balloc (Below.refl _ _) _) hb)
    clear hb hl
    go_wp2
    go_ret2
    exact ⟨by rw [HE.out.1, HE.out.2]; rfl, HB.out⟩
  | false =>
    have HE : Hid (txS l = ⟨#[]⟩ ∧ txE l = 2) := Lib.hid ⟨if_neg (by rw [hl]; decide), if_neg (by rw [hl]; decide)⟩
    go_enter Tryz.func24, Tryz.ntmps24
    go_wp2_with fail
    refine (safely_no 82 #[.pointer (some ⟨w.heap.size, 0, none⟩)] _ (fun _ _ => rfl) (fun w' hb => (H1.out w' hb).mono (fun e w2 hh => ⟨hh.1.elim (fun h => absurd h.1 (by rw [hl]; decide)) (fun h => h.2), hh.2⟩))).mono ?_
    rintro e w1 ⟨rfl, hb⟩
    have HB : Hid (Below w.heap.size w w1) := Lib.hid (bnext (balloc (Below.refl _ _) _) hb)
    clear hb hl
    go_wp2
    go_ret2
    exact ⟨by rw [HE.out.1, HE.out.2]; rfl, HB.out⟩
end Go.Proofs.YtpobhbdomldecaaGreatDoor
namespace Go.Proofs.YtpobhbdomldecaaGreatDoor
open Go.RowKit
set_option linter.unusedSimpArgs false
set_option linter.unusedVariables false
theorem turnedZ_in {k d : Nat} (hd : d ≤ 16) (hk : k < 2 ^ d) : turnedZ (k : Nat) (d : Nat) = ((revOf k d : Nat) : Int) := by
  unfold turnedZ
  rw [if_pos ⟨by omega, by omega, by rw [Int.toNat_natCast, pow_cast]; exact_mod_cast hk⟩]
  rfl
end Go.Proofs.YtpobhbdomldecaaGreatDoor
namespace Go.Proofs.YtpobhbdomldecaaGreatDoor
open Go.RowKit
set_option linter.unusedSimpArgs false
set_option linter.unusedVariables false
theorem txts_news {w : World} {ad : Addr} {l : List ByteArray} (h : Txts w (some ad) l) : ∀ j u, (l.map Value.string)[j]? = some u → w.cell? (ad.add j) = some u := by
  intro j u hu
  have hj : j < l.length := by have := (List.getElem?_eq_some_iff.1 hu).1; simpa using this
  rw [List.getElem?_map, List.getElem?_eq_getElem hj] at hu
  cases hu
  obtain ⟨b, off, e, hc⟩ := h j hj
  cases e
  rw [tth_eq l j hj] at hc
  by_cases hj0 : j = 0
  · subst hj0; simpa [Addr.add] using hc
  · simpa [Addr.add, hj0] using hc
theorem one_txts (l : List ByteArray) : ∀ u ∈ l.map Value.string, u.oneCell' = true := by
  intro u hu
  obtain ⟨x, _, rfl⟩ := List.mem_map.1 hu
  rfl
theorem len_appT {α : Type} (a b : List α) : len (a ++ b) = len a + len b := by rw [len_eq, List.length_append]; rfl
theorem wpList_append_txts {w : World} {ops : Array Oper} {rest : List Oper} {o : Oper} {a : Act} {Q : Exit → Act → World → Prop} (hgd : o.guard = none) (s x : Operand)
    (ho : o.op = .call { callee := .builtin .append, args := #[s, x], argTypes := #[36, 36] })
    (base : Nat) (v : Value) (xs l : List ByteArray) (ad : Option Addr) (c : Nat) (hs : a.eval s = v) (hown : w.ownsRow base 9 1 v (len xs) (xs.map Value.string))
    (hx : a.eval x = .slice ad (len l) c) (hl : Txts w ad l) (hc : ad = none → c = 0) (hlen : len xs + len l ≤ 100000) (hbase : base ≤ w.heap.size)
    (h : ∀ v' w', w'.ownsRow base 9 1 v' (len (xs ++ l)) ((xs ++ l).map Value.string) → w.grownBy w' v.ownBlock → wpList Tryz.prog ops Q rest (a.put o.dst v') w') : wpList Tryz.prog ops Q (o :: rest) a w := by
  obtain ⟨i0, hi, hz0, hz1, hz2⟩ := info_parts info_str
  cases ad with
  | none =>
    obtain rfl : l = [] := by
      cases l with
      | nil => rfl
      | cons y l => obtain ⟨b, off, e, _⟩ := hl 0 (by simp [len]); cases e
    rw [hc rfl] at hx
    refine wpList_append_own_none hgd s x 36 ho base 9 i0 1 Tryz.underlying36 hi v _ _ hs hown hx ?_
    exact h v w (by rw [List.append_nil]; exact hown) ⟨rfl, rfl, rfl, Nat.le_refl _, fun _ _ _ => rfl⟩
  | some ad =>
    refine wpList_append_own _ hgd s x 36 ho base 9 i0 (.string ⟨#[]⟩) 1 16 Tryz.underlying36 hi hz0 hz1 hz2 rfl (by decide) v _ _ hs hown ad (len l) c (l.map Value.string) hx (by simp [len]) (txts_news hl) (one_txts l) (by unfold maxLen; omega) (by omega) hbase ?_
    intro v' w' h1 h2 _
    refine h v' w' ?_ h2
    rw [len_appT, List.map_append]; exact h1
def Apart (u v : Value) : Prop := ∀ k, u.ownBlock = some k → v.ownBlock ≠ some k
theorem Apart.symm {u v : Value} (h : Apart u v) : Apart v u := fun k h1 h2 => h k h2 h1
theorem Apart.keep {w w1 : World} {u v : Value} {base e size n : Nat} {xs : List Value} (h : Apart u v) (ho : w.ownsRow base e size u n xs) (hg : w.grownBy w1 v.ownBlock) : w1.ownsRow base e size u n xs :=
  ho.kept hg (by
    cases hp : Value.ownBlock u with
    | none => exact .inl rfl
    | some k => exact .inr (fun e => h k hp e.symm))
end Go.Proofs.YtpobhbdomldecaaGreatDoor
namespace Go.Proofs.YtpobhbdomldecaaGreatDoor
open Go.RowKit
set_option linter.unusedSimpArgs false
set_option linter.unusedVariables false
def Ref9At (els : List ByteArray) (b : Nat) (w : World) : Prop := ∃ a c, w.heap[b]? = some (.cells #[.slice a (len els) c] 157 (0, 0)) ∧ Txts w a els
theorem Ref9At.below {els : List ByteArray} {b : Nat} {w w' : World} (h : Ref9At els b w) (hb : Below w.heap.size w w') : Ref9At els b w' := by
  obtain ⟨a, c, h1, h2⟩ := h
  exact ⟨a, c, (hb.block _ (lt_of_block h1)).trans h1, h2.below hb⟩
def Build9Is (els : List ByteArray) (w : World) (e : Ending) (w' : World) : Prop := ∃ b, e = .returned (.tuple #[.pointer (some ⟨b, 0, none⟩), .int .i64 0]) ∧ Ref9At els b w' ∧ Below w.heap.size w w'
set_option maxRecDepth 100000 in
set_option maxHeartbeats 4000000 in
theorem rbuild9_any (els : List ByteArray) (a : Option Addr) (c : Nat) (w : World) (ht : Txts w a els) (hn : len els ≤ 65536) (hc : a = none → c = 0) :
    Calls Tryz.prog 72 #[.slice a (len els) c] w (Build9Is els w) := by
  have HT := Lib.hid ht
  have HN := Lib.hid hn
  have HC := Lib.hid hc
  have b0 : ¬ (65536 : Int) < (len els : Int) := by omega
  clear ht hn hc
  have E0 : Hid ((w.alloc (.cells #[.slice none 0 0] 157)).ownsRow (w.heap.size + 1) 9 1 (.slice none 0 0) (len ([] : List ByteArray)) (([] : List ByteArray).map Value.string)) := Lib.hid (World.ownsRow_nil _ _ _ _)
  have hb0 : w.heap.size < (w.alloc (.cells #[.slice none 0 0] 157)).heap.size := by simp
  go_enter Tryz.func72, Tryz.ntmps72
  go_wp2_with (at_builtin; refine wpList_append_txts rfl _ _ rfl (w.heap.size + 1) _ [] els a c rfl E0.out rfl (HT.out.below (balloc (Below.refl _ _) _)) HC.out (show 0 + len els ≤ 100000 by have := HN.out; omega) (by simp) ?_)
  intro v w2 hown hgrow
  have h2 : w2.heap[w.heap.size]? = some (.cells #[.slice none 0 0] 157 (0, 0)) := by rw [hgrow.block _ hb0 (by simp [Value.ownBlock])]; exact heap_alloc_new _ _
  have HB2 : Hid (Below w.heap.size w w2) := Lib.hid (grownBy_below (balloc (Below.refl _ _) _) hgrow (fun k hk => by simp [Value.ownBlock] at hk))
  have HH2 := Lib.hid h2
  have c0 : w2.cell? ⟨w.heap.size, 0, none⟩ = some (.slice none 0 0) := block_cell h2 0
  have f0 : w2.frozen? ⟨w.heap.size, 0, none⟩ = false := block_free h2 0
  have HO2 : Hid (w2.ownsRow (w.heap.size + 1) 9 1 v (len els) (els.map Value.string)) := Lib.hid hown
  obtain ⟨a2, c2, rfl, ht2⟩ := own_txts HO2.out
  have HT2 := Lib.hid ht2
  clear hown hgrow h2 hb0 E0 ht2
  go_wp2
  go_ret2
  refine ⟨_, rfl, ⟨a2, c2, block_setCell HH2.out _, fun i hi => ?_⟩, bset HB2.out (Nat.le_refl _) _⟩
  obtain ⟨b9, o9, e9, h9⟩ := HT2.out i hi
  subst e9
  have hg := (HO2.out.lt b9 rfl).1
  exact ⟨b9, o9, rfl, by rw [World.cell?_of_block (w := w2) (Below.heap_setCell _ _ _ _ (show b9 ≠ w.heap.size by omega))]; exact h9⟩
set_option maxRecDepth 100000 in
theorem rdepth9_any (els : List ByteArray) (b : Nat) (w : World) (h : Ref9At els b w) (hn : len els ≤ 65536) : Calls Tryz.prog 130 #[.pointer (some ⟨b, 0, none⟩)] w fun e w' => e = .returned (.int .i64 (depN els : Nat)) ∧ w = w' := by
  obtain ⟨a, c, h1, h2⟩ := h
  have c0 : w.cell? ⟨b, 0, none⟩ = some (.slice a (len els) c) := block_cell h1 0
  have HD := Lib.hid (refDepth_any (len els : Nat) w (by omega) (by omega))
  rw [depthZ_len hn] at HD
  clear h1 h2 hn
  go_enter Tryz.func130, Tryz.ntmps130
  go_wp2_with fail
  refine HD.out.mono ?_
  rintro e w1 ⟨rfl, rfl⟩
  go_wp2
  go_ret
  exact ⟨rfl, rfl⟩
set_option maxRecDepth 100000 in
set_option maxHeartbeats 4000000 in
theorem rdigest9_zero (els : List ByteArray) (b k : Nat) (w : World) (hn : len els ≤ 65536) (hz : ∀ i, i < len els → (tth els i).size ≤ 140737488355200) (hk : k < 2 ^ depN els) (ht : Ref9At els b w) :
    Calls Tryz.prog 129 #[.pointer (some ⟨b, 0, none⟩), .int .i64 0, .int .u64 (k : Nat)] w fun e w' => e = .returned (.string (plD els (depN els) 0 k)) ∧ Below w.heap.size w w' := by
  have hd : depN els ≤ 16 := depN_le hn
  have hk2 : k < 65536 := Nat.lt_of_lt_of_le hk (Nat.pow_le_pow_right (by decide) hd)
  have HDP := Lib.hid (rdepth9_any els b w ht hn)
  obtain ⟨d, hdd⟩ : ∃ d, depN els = d := ⟨_, rfl⟩
  rw [hdd] at HDP hd hk ⊢
  have HE := Lib.hid (refElement_any (k : Nat) (d : Nat) w (by omega) (by omega) (by omega) (by omega))
  rw [turnedZ_in hd hk] at HE
  obtain ⟨r, hr⟩ : ∃ r, revOf k d = r := ⟨_, rfl⟩
  rw [hr] at HE
  obtain ⟨a, c, h1, h2⟩ := ht
  have c0 : w.cell? ⟨b, 0, none⟩ = some (.slice a (len els) c) := block_cell h1 0
  by_cases hlt : r < len els
  · have HP : Hid (plD els d 0 k = hashP leafT [tth els r]) := Lib.hid (by
      show (if revOf k d < len els then hashP leafT [tth els (revOf k d)] else hashP noneT []) = _
      rw [hr, if_pos hlt])
    have b0 : (r : Int) < len els := by omega
    have b1 : ¬ (len els : Int) ≤ (r : Int) := by omega
    obtain ⟨bb, off, rfl, hcell⟩ := h2 r hlt
    have HZ := Lib.hid (hz r hlt)
    obtain ⟨s, hs⟩ : ∃ s, tth els r = s := ⟨_, rfl⟩
    rw [hs] at HP HZ hcell
    have w8 : IntKind.u64.wrap ((len els : Nat) : Int) = ((len els : Nat) : Int) := IntWalk.u64_in _ (by omega)
    have wr1 : IntKind.i64.wrap ((r : Nat) : Int) = ((r : Nat) : Int) := IntWalk.i64_in _ (by omega)
    clear hd hn hz hk hr hs hk2 h1 h2 hdd
    go_enter Tryz.func129, Tryz.ntmps129
    go_wp2_with fail
    refine HDP.out.mono ?_
    rintro e w1 ⟨rfl, rfl⟩
    go_wp2_with fail
    refine HE.out.mono ?_
    rintro e w1 ⟨rfl, rfl⟩
    go_wp2_with fail
    refine (rhash1_any leafT s w (by decide) (by decide) HZ.out).mono ?_
    rintro e w2 ⟨rfl, hb2⟩
    have HB2 := Lib.hid hb2
    clear hb2
    go_wp2
    go_ret
    exact ⟨by rw [HP.out]; rfl, HB2.out⟩
  · have HP : Hid (plD els d 0 k = hashP noneT []) := Lib.hid (by
      show (if revOf k d < len els then hashP leafT [tth els (revOf k d)] else hashP noneT []) = _
      rw [hr, if_neg hlt])
    have b1 : (len els : Int) ≤ (r : Int) := by omega
    have w8 : IntKind.u64.wrap ((len els : Nat) : Int) = ((len els : Nat) : Int) := IntWalk.u64_in _ (by omega)
    clear hd hn hz hk hr hk2 h1 h2 hdd
    go_enter Tryz.func129, Tryz.ntmps129
    go_wp2_with fail
    refine HDP.out.mono ?_
    rintro e w1 ⟨rfl, rfl⟩
    go_wp2_with fail
    refine HE.out.mono ?_
    rintro e w1 ⟨rfl, rfl⟩
    go_wp2_with fail
    refine (rhash0_any noneT w (by decide) (by decide)).mono ?_
    rintro e w2 ⟨rfl, hb2⟩
    have HB2 := Lib.hid hb2
    clear hb2
    go_wp2
    go_ret
    exact ⟨by rw [HP.out]; rfl, HB2.out⟩
set_option maxRecDepth 100000 in
set_option maxHeartbeats 4000000 in
theorem rdigest9_any (els : List ByteArray) (b : Nat) (hn : len els ≤ 65536) (hz : ∀ i, i < len els → (tth els i).size ≤ 140737488355200) : ∀ (l k : Nat) (w : World), l ≤ depN els → k < 2 ^ (depN els - l) → Ref9At els b w →
    Calls Tryz.prog 129 #[.pointer (some ⟨b, 0, none⟩), .int .i64 (l : Nat), .int .u64 (k : Nat)] w fun e w' => e = .returned (.string (plD els (depN els) l k)) ∧ Below w.heap.size w w'
  | 0, k, w, hl, hk, ht => rdigest9_zero els b k w hn hz hk ht
  | l + 1, k, w, hl, hk, ht => by
    have hd : depN els ≤ 16 := depN_le hn
    have hp : 2 ^ (depN els - l) = 2 * 2 ^ (depN els - (l + 1)) := by rw [show depN els - l = depN els - (l + 1) + 1 by omega, Nat.pow_succ]; omega
    have hk2 : 2 ^ (depN els - l) ≤ 65536 := Nat.pow_le_pow_right (by decide) (show depN els - l ≤ 16 by omega)
    obtain ⟨k0, hk0⟩ : ∃ k0, 2 * k = k0 := ⟨_, rfl⟩
    obtain ⟨k1, hk1⟩ : ∃ k1, 2 * k + 1 = k1 := ⟨_, rfl⟩
    obtain ⟨m, hm⟩ : ∃ m, l + 1 = m := ⟨_, rfl⟩
    have f1 : IntKind.u64.wrap (2 * ((k : Nat) : Int)) = ((k0 : Nat) : Int) := by rw [IntWalk.u64_in _ (by omega)]; omega
    have f2 : IntKind.u64.wrap (((k0 : Nat) : Int) + 1) = ((k1 : Nat) : Int) := by rw [IntWalk.u64_in _ (by omega)]; omega
    have l1 : (0 : Int) < ((m : Nat) : Int) := by omega
    have l2 : IntKind.i64.wrap (((m : Nat) : Int) - 1) = ((l : Nat) : Int) := by rw [IntWalk.i64_in _ (by omega)]; omega
    have IH1 := Lib.hid (fun w9 h9 => rdigest9_any els b hn hz l (2 * k) w9 (by omega) (by omega) h9)
    have IH2 := Lib.hid (fun w9 h9 => rdigest9_any els b hn hz l (2 * k + 1) w9 (by omega) (by omega) h9)
    have HT := Lib.hid ht
    obtain ⟨d, hdd⟩ : ∃ d, depN els = d := ⟨_, rfl⟩
    rw [hdd] at IH1 IH2 ⊢
    obtain ⟨X, hX⟩ : ∃ X, plD els d l (2 * k) = X := ⟨_, rfl⟩
    obtain ⟨Y, hY⟩ : ∃ Y, plD els d l (2 * k + 1) = Y := ⟨_, rfl⟩
    have HP : Hid (plD els d (l + 1) k = hashP nodeT [X, Y]) := Lib.hid (by rw [← hX, ← hY]; rfl)
    have HXS : Hid (X.size ≤ 1000000) := Lib.hid (by rw [← hX, plD_size]; decide)
    have HYS : Hid (Y.size ≤ 1000000) := Lib.hid (by rw [← hY, plD_size]; decide)
    rw [hX, hk0] at IH1
    rw [hY, hk1] at IH2
    rw [hm] at HP ⊢
    clear hX hY ht hk hp hk2 hd hn hz hl hk0 hk1 hm hdd
    go_enter Tryz.func129, Tryz.ntmps129
    go_wp2_with fail
    refine (IH1.out w HT.out).mono ?_
    rintro e w1 ⟨rfl, hb1⟩
    have HB1 := Lib.hid hb1
    have HT1 := Lib.hid (HT.out.below hb1)
    clear hb1
    go_wp2_with fail
    refine (IH2.out w1 HT1.out).mono ?_
    rintro e w2 ⟨rfl, hb2⟩
    have HB2 : Hid (Below w.heap.size w w2) := Lib.hid (bnext HB1.out hb2)
    clear hb2
    go_wp2_with fail
    refine (rhash2_any nodeT X Y w2 (by decide) (by decide) HXS.out HYS.out).mono ?_
    rintro e w3 ⟨rfl, hb3⟩
    have HB3 : Hid (Below w.heap.size w w3) := Lib.hid (bnext HB2.out hb3)
    clear hb3
    go_wp2
    go_ret
    exact ⟨by rw [HP.out]; rfl, HB3.out⟩
set_option maxRecDepth 100000 in
theorem rroot9_any (els : List ByteArray) (b : Nat) (w : World) (hn : len els ≤ 65536) (hz : ∀ i, i < len els → (tth els i).size ≤ 140737488355200) (ht : Ref9At els b w) :
    Calls Tryz.prog 73 #[.pointer (some ⟨b, 0, none⟩)] w fun e w' => e = .returned (.string (treeR els)) ∧ Below w.heap.size w w' := by
  have HDP := Lib.hid (rdepth9_any els b w ht hn)
  have HDG := Lib.hid (rdigest9_any els b hn hz (depN els) 0 w (Nat.le_refl _) (Nat.pow_pos (by decide)) ht)
  obtain ⟨X, hX⟩ : ∃ X, treeR els = X := ⟨_, rfl⟩
  rw [show plD els (depN els) (depN els) 0 = treeR els from rfl, hX] at HDG
  rw [hX]
  obtain ⟨d, hdd⟩ : ∃ d, depN els = d := ⟨_, rfl⟩
  rw [hdd] at HDP HDG
  clear ht hn hz hX hdd
  go_enter Tryz.func73, Tryz.ntmps73
  go_wp2_with fail
  refine HDP.out.mono ?_
  rintro e w1 ⟨rfl, rfl⟩
  go_wp2_with fail
  refine HDG.out.mono ?_
  rintro e w1 ⟨rfl, hb⟩
  have HB := Lib.hid hb
  clear hb
  go_wp2
  go_ret
  exact ⟨rfl, HB.out⟩
end Go.Proofs.YtpobhbdomldecaaGreatDoor
namespace Go.Proofs.YtpobhbdomldecaaGreatDoor
set_option linter.unusedSimpArgs false
set_option linter.unusedVariables false
open Go.RowKit
theorem yielded_undef {ops : Array Oper} {j d : Nat} {oj : Oper} {a : Act} (hj : ops[j]? = some oj) (hd : oj.dst = some d) (hv : a.eval (.tmp d) = undef) : yielded ops a.tmps j = none := by
  have h : a.tmps.getD d undef = undef := hv
  unfold yielded
  rw [hj]
  simp only [Option.bind_some, hd]
  cases ht : a.tmps[d]? with
  | none => rfl
  | some x =>
    rw [Array.getD_eq_getD_getElem?, ht] at h
    simp at h; subst h; rfl
theorem wanted_undef {l : List Oper} {o oj : Oper} {j d : Nat} {want : Bool} {a : Act} (hg : o.guard = some (j, want)) (hj : l.toArray[j]? = some oj) (hd : oj.dst = some d) (hv : a.eval (.tmp d) = undef) :
    Region.wanted o (yielded l.toArray a.tmps) = false := by
  unfold Region.wanted
  rw [hg]
  simp only [yielded_undef hj hd hv]
  cases want <;> rfl
end Go.Proofs.YtpobhbdomldecaaGreatDoor
namespace Go.Proofs.YtpobhbdomldecaaGreatDoor
open Go.RowKit
set_option linter.unusedSimpArgs false
set_option linter.unusedVariables false
theorem rhw_any (r : Hdr) (w : World) (ho : r.Ok) : Calls Tryz.prog 80 #[r.val] w (LaidIs (hsp r) w) :=
  rheader_any r.rnd r.prev r.txns r.seed w ho.r0 (Nat.le_trans ho.p1 (by decide)) (Nat.le_trans ho.t1 (by decide)) (Nat.le_trans ho.s1 (by decide))
theorem rhw_yes (r : Hdr) (w : World) (ho : r.Ok) (h : hOk r = true) : Calls Tryz.prog 80 #[r.val] w fun e w' => e = .returned (.tuple #[.string (hbs r), .int .i64 0]) ∧ Below w.heap.size w w' :=
  (rhw_any r w ho).mono fun e w' hh => laid_yes h rfl hh
theorem rhw_no (r : Hdr) (w : World) (ho : r.Ok) (h : hOk r = false) : Calls Tryz.prog 80 #[r.val] w fun e w' => e = .returned (.tuple #[.string ⟨#[]⟩, .int .i64 2]) ∧ Below w.heap.size w w' :=
  (rhw_any r w ho).mono fun e w' hh => laid_no h hh
set_option maxRecDepth 100000 in
theorem rhdig_any (r : Hdr) (w : World) (ho : r.Ok) : Calls Tryz.prog 22 #[r.val] w (DgIs r w) := by
  by_cases h : hOk r = true
  · have HW := Lib.hid (fun w9 => rhw_yes r w9 ho h)
    have HS : Hid ((hbs r).size ≤ 1000000) := Lib.hid (Nat.le_trans (hbs_size h) (by decide))
    have HE : Hid (dgS r = hdg r ∧ dgE r = 0) := Lib.hid ⟨if_pos h, if_pos h⟩
    clear ho h
    go_enter Tryz.func22, Tryz.ntmps22
    go_wp2_with fail
    refine (HW.out _).mono ?_
    rintro e w1 ⟨rfl, hb⟩
    have HB : Hid (Below w.heap.size w w1) := Lib.hid (bnext (balloc (Below.refl _ _) _) hb)
    clear hb
    go_wp2_with fail
    refine (rhash1_any hdrT (hbs r) _ (by decide) (by decide) (Nat.le_trans HS.out (by decide))).mono ?_
    rintro e w2 ⟨rfl, hb⟩
    have HB := Lib.hid (bnext HB.out hb)
    clear hb
    go_wp2
    go_ret2
    exact ⟨by rw [HE.out.1, HE.out.2]; rfl, HB.out⟩
  · have h : hOk r = false := by simpa using h
    have HW := Lib.hid (fun w9 => rhw_no r w9 ho h)
    have HE : Hid (dgS r = ⟨#[]⟩ ∧ dgE r = 2) := Lib.hid ⟨if_neg (by rw [h]; decide), if_neg (by rw [h]; decide)⟩
    clear ho h
    go_enter Tryz.func22, Tryz.ntmps22
    go_wp2_with fail
    refine (HW.out _).mono ?_
    rintro e w1 ⟨rfl, hb⟩
    have HB : Hid (Below w.heap.size w w1) := Lib.hid (bnext (balloc (Below.refl _ _) _) hb)
    clear hb
    go_wp2
    go_ret2
    exact ⟨by rw [HE.out.1, HE.out.2]; rfl, HB.out⟩
def RElIs (l : List Hdr) (w : World) (e : Ending) (w' : World) : Prop := ∃ v, e = .returned (.tuple #[v, .bool (elOk l)]) ∧ (elOk l = true → TextsAre (elL l) v w') ∧ Below w.heap.size w w'
theorem step_no {l : List Hdr} {m : Nat} (hm : m + 1 < len l) (h : stepH (hnth l m) (hnth l (m + 1)) = false) : elOk l = false := by
  have := followH_no (R := stepH) hm (by omega) h
  unfold elOk
  rw [this]
  simp
theorem lay_no {l : List Hdr} {m : Nat} (hm : m < len l) (h : hOk (hnth l m) = false) : elOk l = false := by
  unfold elOk
  rw [laysH_no hm h]
  simp
theorem step_eq (p q : Hdr) (hp : p.Ok) (hq : q.Ok) : stepH p q = (!(q.rnd == 0) && (q.rnd - 1 == p.rnd)) := by
  have h1 := hp.r0.1
  have h2 := hq.r0.1
  unfold stepH
  by_cases e : q.rnd - 1 = p.rnd
  · have a1 : p.rnd < q.rnd := by omega
    have a2 : q.rnd - p.rnd = 1 := by omega
    have a3 : ¬ q.rnd = 0 := by omega
    simp [a1, a2, a3, e]
  · have a2 : ¬ (q.rnd - p.rnd = 1) := by omega
    simp [a2, e]
structure ElSt (l : List Hdr) (w wr : World) (v : Value) (m : Nat) : Prop where
  b : Below w.heap.size w wr
  o : wr.ownsRow w.heap.size 9 1 v (len (elL (l.take m))) ((elL (l.take m)).map Value.string)
  y : ∀ j, j < m → hOk (hnth l j) = true
  s : ∀ j, 0 < j → j < m → stepH (hnth l (j - 1)) (hnth l j) = true
theorem lenT (l : List Hdr) (m : Nat) (h : m ≤ len l) : len (elL (l.take m)) = m := by rw [elL_len, len_eq, List.length_take]; rw [len_eq] at h; omega
set_option maxRecDepth 100000 in
set_option maxHeartbeats 4000000 in
theorem relements_any (l : List Hdr) (a : Option Addr) (cap : Nat) (w : World) (hn : len l ≤ 100000) (hc : Hdrs w a l) (ho : ∀ i, (hnth l i).Ok) :
    Calls Tryz.prog 71 #[.slice a (len l) cap] w (RElIs l w) := by
  have HC := Lib.hid hc
  have HO := Lib.hid ho
  have HN := Lib.hid hn
  clear hc ho hn
  obtain ⟨i0, hi, hz0, hz1, hz2⟩ := info_parts info_str
  have HZ := Lib.hid hz0
  clear hz0
  go_enter Tryz.func71, Tryz.ntmps71
  go_wp2
  go_loopg [4, 5] (len l) (fun gg v i wr => ∃ m : Nat, gg + m = len l ∧ i = .int .i64 (m : Nat) ∧ Hid (ElSt l w wr v m))
  case atStart => exact ⟨0, rfl, rfl, Lib.hid ⟨Below.refl _ _, World.ownsRow_nil _ _ _ _, fun j h => by omega, fun j _ h => by omega⟩⟩
  case round =>
    obtain ⟨m, hm, rfl, HS⟩ := hrel
    by_cases hlt : m < len l
    · obtain ⟨b, off, rfl, ⟨e0, e1, e2, e3⟩⟩ := (HC.out.below HS.out.b) m hlt
      have HR := Lib.hid (fun w9 => rhw_yes (hnth l m) w9 (HO.out m))
      have HRN := Lib.hid (fun w9 => rhw_no (hnth l m) w9 (HO.out m))
      obtain ⟨r, hr⟩ : ∃ r, hnth l m = r := ⟨_, rfl⟩
      have HRO := Lib.hid (HO.out m)
      rw [hr] at e0 e1 e2 e3 HR HRN HRO
      have HRE := Lib.hid hr
      have b0 : (m : Int) < len l := by omega
      have HLT := Lib.hid hlt
      have HB := Lib.hid (HS.out.b)
      clear hr
      by_cases hok : hOk r = true
      · have HSZ : Hid ((hbs r).size ≤ 1000) := Lib.hid (hbs_size hok)
        have HOK := Lib.hid hok
        go_wp2_with fail
        refine (HR.out _ hok).mono ?_
        rintro e w1 ⟨rfl, hb⟩
        have HB1 : Hid (Below w.heap.size w w1) := Lib.hid (bnext HB.out hb)
        have HOWN := Lib.hid (own_below HS.out.o hb)
        clear hb hok
        by_cases hm0 : m = 0
        · subst hm0
          clear e0 e1 e2 e3
          go_upto_region 6 with fail
          refine wp_region_all 1000 (none) (phis [fun u _ => u = (.int .i64 0), fun u _ => u = (.bool false), fun u _ => u = (.bool false), fun u _ => u = (.int .i64 0), fun u _ => u = (.bool false), fun u _ => u = (.bool false), fun u _ => u = undef, fun u _ => u = undef, fun u _ => u = undef, fun u _ => u = undef, fun u _ => u = undef, fun u _ => u = undef, fun u _ => u = undef, fun u _ => u = undef, fun u _ => u = undef, fun u _ => u = undef, fun u _ => u = undef, fun u _ => u = undef, fun u _ => u = undef, fun u _ => u = undef, fun u _ => u = undef, fun u _ => u = undef, fun u _ => u = undef, fun u _ => u = undef, fun u _ => u = undef, fun u _ => u = undef, fun u _ => u = undef, fun u _ => u = (.bool false), fun u _ => u = (.bool false)]) rfl (by kernel_rfl) (mono_of ⟨mono_eq, mono_eq, mono_eq, mono_eq, mono_eq, mono_eq, mono_eq, mono_eq, mono_eq, mono_eq, mono_eq, mono_eq, mono_eq, mono_eq, mono_eq, mono_eq, mono_eq, mono_eq, mono_eq, mono_eq, mono_eq, mono_eq, mono_eq, mono_eq, mono_eq, mono_eq, mono_eq, mono_eq, mono_eq, trivial⟩) (steps_of 29 ⟨?s0, ?s1, ?s2, ?s3, ?s4, ?s5, ?s6, ?s7, ?s8, ?s9, ?s10, ?s11, ?s12, ?s13, ?s14, ?s15, ?s16, ?s17, ?s18, ?s19, ?s20, ?s21, ?s22, ?s23, ?s24, ?s25, ?s26, ?s27, ?s28, trivial⟩) ?_
          case s0 =>
            refine step_val (v := (.int .i64 0)) (fun av wv hE hS hO hD => ?_) (fun _ => rfl)
            have h7 : av.eval (.tmp 7) = (.int .i64 0) := hO.2.2 7 rfl
            have f7 := (ev_form av 7).symm.trans h7
            refine ⟨rfl, ?_⟩
            simp [go_sem, f7]
          case s1 =>
            refine step_val (v := (.bool false)) (fun av wv hE hS hO hD => ?_) (fun _ => rfl)
            have d22 : av.eval (.tmp 22) = (.int .i64 0) := hD.1 rfl _ rfl
            have f22 := (ev_form av 22).symm.trans d22
            refine ⟨rfl, ?_⟩
            simp [go_sem, f22]
          case s2 =>
            refine step_val (v := (.bool false)) (fun av wv hE hS hO hD => ?_) (fun _ => rfl)
            have d23 : av.eval (.tmp 23) = (.bool false) := hD.1 rfl _ rfl
            have f23 := (ev_form av 23).symm.trans d23
            refine ⟨rfl, ?_⟩
            simp [go_sem, f23]
          case s3 =>
            refine step_val (v := (.int .i64 0)) (fun av wv hE hS hO hD => ?_) (fun _ => rfl)
            have h5 : av.eval (.tmp 5) = (.int .i64 0) := hO.2.2 5 rfl
            have f5 := (ev_form av 5).symm.trans h5
            have d24 : av.eval (.tmp 24) = (.bool false) := hD.1 rfl _ rfl
            have f24 := (ev_form av 24).symm.trans d24
            refine ⟨(wanted_of (d := 24) (b := false) (want := false) rfl rfl rfl d24), ?_⟩
            simp [go_sem, f5, f24]
          case s4 =>
            refine step_val (v := (.bool false)) (fun av wv hE hS hO hD => ?_) (fun _ => rfl)
            have d25 : av.eval (.tmp 25) = (.int .i64 0) := hD.1 rfl _ rfl
            have f25 := (ev_form av 25).symm.trans d25
            have d24 : av.eval (.tmp 24) = (.bool false) := hD.2.1 rfl _ rfl
            have f24 := (ev_form av 24).symm.trans d24
            refine ⟨(wanted_of (d := 24) (b := false) (want := false) rfl rfl rfl d24), ?_⟩
            simp [go_sem, f25, f24]
          case s5 =>
            refine step_val (v := (.bool false)) (fun av wv hE hS hO hD => ?_) (fun _ => rfl)
            have d26 : av.eval (.tmp 26) = (.bool false) := hD.1 rfl _ rfl
            have f26 := (ev_form av 26).symm.trans d26
            have d24 : av.eval (.tmp 24) = (.bool false) := hD.2.1 rfl _ rfl
            have f24 := (ev_form av 24).symm.trans d24
            refine ⟨(wanted_of (d := 24) (b := false) (want := false) rfl rfl rfl d24), ?_⟩
            simp [go_sem, f26, f24]
          case s6 =>
            refine step_skip (fun av wv hE hS hO hD => ?_) (fun _ => rfl)
            have h0 : av.eval (.tmp 0) = (.slice (some ⟨b, off, none⟩) (len l) cap) := hO.2.2 0 rfl
            have f0 := (ev_form av 0).symm.trans h0
            have d27 : av.eval (.tmp 27) = (.bool false) := hD.1 rfl _ rfl
            have f27 := (ev_form av 27).symm.trans d27
            exact (wanted_of (d := 27) (b := false) (want := true) rfl rfl rfl d27)
          case s7 =>
            refine step_skip (fun av wv hE hS hO hD => ?_) (fun _ => rfl)
            have h5 : av.eval (.tmp 5) = (.int .i64 0) := hO.2.2 5 rfl
            have f5 := (ev_form av 5).symm.trans h5
            have d27 : av.eval (.tmp 27) = (.bool false) := hD.1 rfl _ rfl
            have f27 := (ev_form av 27).symm.trans d27
            exact (wanted_of (d := 27) (b := false) (want := true) rfl rfl rfl d27)
          case s8 =>
            refine step_skip (fun av wv hE hS hO hD => ?_) (fun _ => rfl)
            have d28 : av.eval (.tmp 28) = (undef) := hD.1 rfl _ rfl
            have f28 := (ev_form av 28).symm.trans d28
            have d29 : av.eval (.tmp 29) = (undef) := hD.2.1 rfl _ rfl
            have f29 := (ev_form av 29).symm.trans d29
            have d27 : av.eval (.tmp 27) = (.bool false) := hD.2.2.1 rfl _ rfl
            have f27 := (ev_form av 27).symm.trans d27
            exact (wanted_of (d := 27) (b := false) (want := true) rfl rfl rfl d27)
          case s9 =>
            refine step_skip (fun av wv hE hS hO hD => ?_) (fun _ => rfl)
            have d30 : av.eval (.tmp 30) = (undef) := hD.1 rfl _ rfl
            have f30 := (ev_form av 30).symm.trans d30
            have d27 : av.eval (.tmp 27) = (.bool false) := hD.2.1 rfl _ rfl
            have f27 := (ev_form av 27).symm.trans d27
            exact (wanted_of (d := 27) (b := false) (want := true) rfl rfl rfl d27)
          case s10 =>
            refine step_skip (fun av wv hE hS hO hD => ?_) (fun _ => rfl)
            have d31 : av.eval (.tmp 31) = (undef) := hD.1 rfl _ rfl
            have f31 := (ev_form av 31).symm.trans d31
            have d27 : av.eval (.tmp 27) = (.bool false) := hD.2.1 rfl _ rfl
            have f27 := (ev_form av 27).symm.trans d27
            exact (wanted_of (d := 27) (b := false) (want := true) rfl rfl rfl d27)
          case s11 =>
            refine step_skip (fun av wv hE hS hO hD => ?_) (fun _ => rfl)
            have d32 : av.eval (.tmp 32) = (undef) := hD.1 rfl _ rfl
            have f32 := (ev_form av 32).symm.trans d32
            have d27 : av.eval (.tmp 27) = (.bool false) := hD.2.1 rfl _ rfl
            have f27 := (ev_form av 27).symm.trans d27
            exact (wanted_of (d := 27) (b := false) (want := true) rfl rfl rfl d27)
          case s12 =>
            refine step_skip (fun av wv hE hS hO hD => ?_) (fun _ => rfl)
            have d33 : av.eval (.tmp 33) = (undef) := hD.1 rfl _ rfl
            have f33 := (ev_form av 33).symm.trans d33
            have d27 : av.eval (.tmp 27) = (.bool false) := hD.2.1 rfl _ rfl
            have f27 := (ev_form av 27).symm.trans d27
            exact (wanted_of (d := 27) (b := false) (want := true) rfl rfl rfl d27)
          case s13 =>
            refine step_skip (fun av wv hE hS hO hD => ?_) (fun _ => rfl)
            have h0 : av.eval (.tmp 0) = (.slice (some ⟨b, off, none⟩) (len l) cap) := hO.2.2 0 rfl
            have f0 := (ev_form av 0).symm.trans h0
            have d34 : av.eval (.tmp 34) = (undef) := hD.1 rfl _ rfl
            have f34 := (ev_form av 34).symm.trans d34
            exact (wanted_undef (d := 34) (want := false) rfl rfl rfl d34)
          case s14 =>
            refine step_skip (fun av wv hE hS hO hD => ?_) (fun _ => rfl)
            have h5 : av.eval (.tmp 5) = (.int .i64 0) := hO.2.2 5 rfl
            have f5 := (ev_form av 5).symm.trans h5
            have d34 : av.eval (.tmp 34) = (undef) := hD.1 rfl _ rfl
            have f34 := (ev_form av 34).symm.trans d34
            exact (wanted_undef (d := 34) (want := false) rfl rfl rfl d34)
          case s15 =>
            refine step_skip (fun av wv hE hS hO hD => ?_) (fun _ => rfl)
            have d35 : av.eval (.tmp 35) = (undef) := hD.1 rfl _ rfl
            have f35 := (ev_form av 35).symm.trans d35
            have d36 : av.eval (.tmp 36) = (undef) := hD.2.1 rfl _ rfl
            have f36 := (ev_form av 36).symm.trans d36
            have d34 : av.eval (.tmp 34) = (undef) := hD.2.2.1 rfl _ rfl
            have f34 := (ev_form av 34).symm.trans d34
            exact (wanted_undef (d := 34) (want := false) rfl rfl rfl d34)
          case s16 =>
            refine step_skip (fun av wv hE hS hO hD => ?_) (fun _ => rfl)
            have d37 : av.eval (.tmp 37) = (undef) := hD.1 rfl _ rfl
            have f37 := (ev_form av 37).symm.trans d37
            have d34 : av.eval (.tmp 34) = (undef) := hD.2.1 rfl _ rfl
            have f34 := (ev_form av 34).symm.trans d34
            exact (wanted_undef (d := 34) (want := false) rfl rfl rfl d34)
          case s17 =>
            refine step_skip (fun av wv hE hS hO hD => ?_) (fun _ => rfl)
            have d38 : av.eval (.tmp 38) = (undef) := hD.1 rfl _ rfl
            have f38 := (ev_form av 38).symm.trans d38
            have d34 : av.eval (.tmp 34) = (undef) := hD.2.1 rfl _ rfl
            have f34 := (ev_form av 34).symm.trans d34
            exact (wanted_undef (d := 34) (want := false) rfl rfl rfl d34)
          case s18 =>
            refine step_skip (fun av wv hE hS hO hD => ?_) (fun _ => rfl)
            have d39 : av.eval (.tmp 39) = (undef) := hD.1 rfl _ rfl
            have f39 := (ev_form av 39).symm.trans d39
            have d34 : av.eval (.tmp 34) = (undef) := hD.2.1 rfl _ rfl
            have f34 := (ev_form av 34).symm.trans d34
            exact (wanted_undef (d := 34) (want := false) rfl rfl rfl d34)
          case s19 =>
            refine step_skip (fun av wv hE hS hO hD => ?_) (fun _ => rfl)
            have h0 : av.eval (.tmp 0) = (.slice (some ⟨b, off, none⟩) (len l) cap) := hO.2.2 0 rfl
            have f0 := (ev_form av 0).symm.trans h0
            have d34 : av.eval (.tmp 34) = (undef) := hD.1 rfl _ rfl
            have f34 := (ev_form av 34).symm.trans d34
            exact (wanted_undef (d := 34) (want := false) rfl rfl rfl d34)
          case s20 =>
            refine step_skip (fun av wv hE hS hO hD => ?_) (fun _ => rfl)
            have h5 : av.eval (.tmp 5) = (.int .i64 0) := hO.2.2 5 rfl
            have f5 := (ev_form av 5).symm.trans h5
            have d34 : av.eval (.tmp 34) = (undef) := hD.1 rfl _ rfl
            have f34 := (ev_form av 34).symm.trans d34
            exact (wanted_undef (d := 34) (want := false) rfl rfl rfl d34)
          case s21 =>
            refine step_skip (fun av wv hE hS hO hD => ?_) (fun _ => rfl)
            have d42 : av.eval (.tmp 42) = (undef) := hD.1 rfl _ rfl
            have f42 := (ev_form av 42).symm.trans d42
            have d34 : av.eval (.tmp 34) = (undef) := hD.2.1 rfl _ rfl
            have f34 := (ev_form av 34).symm.trans d34
            exact (wanted_undef (d := 34) (want := false) rfl rfl rfl d34)
          case s22 =>
            refine step_skip (fun av wv hE hS hO hD => ?_) (fun _ => rfl)
            have d41 : av.eval (.tmp 41) = (undef) := hD.1 rfl _ rfl
            have f41 := (ev_form av 41).symm.trans d41
            have d43 : av.eval (.tmp 43) = (undef) := hD.2.1 rfl _ rfl
            have f43 := (ev_form av 43).symm.trans d43
            have d34 : av.eval (.tmp 34) = (undef) := hD.2.2.1 rfl _ rfl
            have f34 := (ev_form av 34).symm.trans d34
            exact (wanted_undef (d := 34) (want := false) rfl rfl rfl d34)
          case s23 =>
            refine step_skip (fun av wv hE hS hO hD => ?_) (fun _ => rfl)
            have d44 : av.eval (.tmp 44) = (undef) := hD.1 rfl _ rfl
            have f44 := (ev_form av 44).symm.trans d44
            have d34 : av.eval (.tmp 34) = (undef) := hD.2.1 rfl _ rfl
            have f34 := (ev_form av 34).symm.trans d34
            exact (wanted_undef (d := 34) (want := false) rfl rfl rfl d34)
          case s24 =>
            refine step_skip (fun av wv hE hS hO hD => ?_) (fun _ => rfl)
            have d45 : av.eval (.tmp 45) = (undef) := hD.1 rfl _ rfl
            have f45 := (ev_form av 45).symm.trans d45
            have d34 : av.eval (.tmp 34) = (undef) := hD.2.1 rfl _ rfl
            have f34 := (ev_form av 34).symm.trans d34
            exact (wanted_undef (d := 34) (want := false) rfl rfl rfl d34)
          case s25 =>
            refine step_skip (fun av wv hE hS hO hD => ?_) (fun _ => rfl)
            have d40 : av.eval (.tmp 40) = (undef) := hD.1 rfl _ rfl
            have f40 := (ev_form av 40).symm.trans d40
            have d46 : av.eval (.tmp 46) = (undef) := hD.2.1 rfl _ rfl
            have f46 := (ev_form av 46).symm.trans d46
            have d34 : av.eval (.tmp 34) = (undef) := hD.2.2.1 rfl _ rfl
            have f34 := (ev_form av 34).symm.trans d34
            exact (wanted_undef (d := 34) (want := false) rfl rfl rfl d34)
          case s26 =>
            refine step_skip (fun av wv hE hS hO hD => ?_) (fun _ => rfl)
            have d34 : av.eval (.tmp 34) = (undef) := hD.1 rfl _ rfl
            have f34 := (ev_form av 34).symm.trans d34
            have d47 : av.eval (.tmp 47) = (undef) := hD.2.1 rfl _ rfl
            have f47 := (ev_form av 47).symm.trans d47
            have d27 : av.eval (.tmp 27) = (.bool false) := hD.2.2.1 rfl _ rfl
            have f27 := (ev_form av 27).symm.trans d27
            exact (wanted_of (d := 27) (b := false) (want := true) rfl rfl rfl d27)
          case s27 =>
            refine step_val (v := (.bool false)) (fun av wv hE hS hO hD => ?_) (fun _ => rfl)
            have d27 : av.eval (.tmp 27) = (.bool false) := hD.1 rfl _ rfl
            have f27 := (ev_form av 27).symm.trans d27
            have d48 : av.eval (.tmp 48) = (undef) := hD.2.1 rfl _ rfl
            have f48 := (ev_form av 48).symm.trans d48
            have d24 : av.eval (.tmp 24) = (.bool false) := hD.2.2.1 rfl _ rfl
            have f24 := (ev_form av 24).symm.trans d24
            refine ⟨(wanted_of (d := 24) (b := false) (want := false) rfl rfl rfl d24), ?_⟩
            simp [go_sem, f27, f48, f24]
          case s28 =>
            refine step_val (v := (.bool false)) (fun av wv hE hS hO hD => ?_) (fun _ => rfl)
            have d24 : av.eval (.tmp 24) = (.bool false) := hD.1 rfl _ rfl
            have f24 := (ev_form av 24).symm.trans d24
            have d49 : av.eval (.tmp 49) = (.bool false) := hD.2.1 rfl _ rfl
            have f49 := (ev_form av 49).symm.trans d49
            refine ⟨rfl, ?_⟩
            simp [go_sem, f24, f49]
          intro a' w' hE hO hall
          have hA := act_of_outer (ds := [22, 23, 24, 25, 26, 27, 28, 29, 30, 31, 32, 33, 34, 35, 36, 37, 38, 39, 40, 41, 42, 43, 44, 45, 46, 47, 48, 49, 50]) rfl hO (by kernel_rfl)
          have e22 : (fun u _ => u = (.int .i64 0)) (a'.eval (.tmp 22)) w' := hall.1 _ rfl
          have e23 : (fun u _ => u = (.bool false)) (a'.eval (.tmp 23)) w' := hall.2.1 _ rfl
          have e24 : (fun u _ => u = (.bool false)) (a'.eval (.tmp 24)) w' := hall.2.2.1 _ rfl
          have e25 : (fun u _ => u = (.int .i64 0)) (a'.eval (.tmp 25)) w' := hall.2.2.2.1 _ rfl
          have e26 : (fun u _ => u = (.bool false)) (a'.eval (.tmp 26)) w' := hall.2.2.2.2.1 _ rfl
          have e27 : (fun u _ => u = (.bool false)) (a'.eval (.tmp 27)) w' := hall.2.2.2.2.2.1 _ rfl
          have e28 : (fun u _ => u = undef) (a'.eval (.tmp 28)) w' := hall.2.2.2.2.2.2.1 _ rfl
          have e29 : (fun u _ => u = undef) (a'.eval (.tmp 29)) w' := hall.2.2.2.2.2.2.2.1 _ rfl
          have e30 : (fun u _ => u = undef) (a'.eval (.tmp 30)) w' := hall.2.2.2.2.2.2.2.2.1 _ rfl
          have e31 : (fun u _ => u = undef) (a'.eval (.tmp 31)) w' := hall.2.2.2.2.2.2.2.2.2.1 _ rfl
          have e32 : (fun u _ => u = undef) (a'.eval (.tmp 32)) w' := hall.2.2.2.2.2.2.2.2.2.2.1 _ rfl
          have e33 : (fun u _ => u = undef) (a'.eval (.tmp 33)) w' := hall.2.2.2.2.2.2.2.2.2.2.2.1 _ rfl
          have e34 : (fun u _ => u = undef) (a'.eval (.tmp 34)) w' := hall.2.2.2.2.2.2.2.2.2.2.2.2.1 _ rfl
          have e35 : (fun u _ => u = undef) (a'.eval (.tmp 35)) w' := hall.2.2.2.2.2.2.2.2.2.2.2.2.2.1 _ rfl
          have e36 : (fun u _ => u = undef) (a'.eval (.tmp 36)) w' := hall.2.2.2.2.2.2.2.2.2.2.2.2.2.2.1 _ rfl
          have e37 : (fun u _ => u = undef) (a'.eval (.tmp 37)) w' := hall.2.2.2.2.2.2.2.2.2.2.2.2.2.2.2.1 _ rfl
          have e38 : (fun u _ => u = undef) (a'.eval (.tmp 38)) w' := hall.2.2.2.2.2.2.2.2.2.2.2.2.2.2.2.2.1 _ rfl
          have e39 : (fun u _ => u = undef) (a'.eval (.tmp 39)) w' := hall.2.2.2.2.2.2.2.2.2.2.2.2.2.2.2.2.2.1 _ rfl
          have e40 : (fun u _ => u = undef) (a'.eval (.tmp 40)) w' := hall.2.2.2.2.2.2.2.2.2.2.2.2.2.2.2.2.2.2.1 _ rfl
          have e41 : (fun u _ => u = undef) (a'.eval (.tmp 41)) w' := hall.2.2.2.2.2.2.2.2.2.2.2.2.2.2.2.2.2.2.2.1 _ rfl
          have e42 : (fun u _ => u = undef) (a'.eval (.tmp 42)) w' := hall.2.2.2.2.2.2.2.2.2.2.2.2.2.2.2.2.2.2.2.2.1 _ rfl
          have e43 : (fun u _ => u = undef) (a'.eval (.tmp 43)) w' := hall.2.2.2.2.2.2.2.2.2.2.2.2.2.2.2.2.2.2.2.2.2.1 _ rfl
          have e44 : (fun u _ => u = undef) (a'.eval (.tmp 44)) w' := hall.2.2.2.2.2.2.2.2.2.2.2.2.2.2.2.2.2.2.2.2.2.2.1 _ rfl
          have e45 : (fun u _ => u = undef) (a'.eval (.tmp 45)) w' := hall.2.2.2.2.2.2.2.2.2.2.2.2.2.2.2.2.2.2.2.2.2.2.2.1 _ rfl
          have e46 : (fun u _ => u = undef) (a'.eval (.tmp 46)) w' := hall.2.2.2.2.2.2.2.2.2.2.2.2.2.2.2.2.2.2.2.2.2.2.2.2.1 _ rfl
          have e47 : (fun u _ => u = undef) (a'.eval (.tmp 47)) w' := hall.2.2.2.2.2.2.2.2.2.2.2.2.2.2.2.2.2.2.2.2.2.2.2.2.2.1 _ rfl
          have e48 : (fun u _ => u = undef) (a'.eval (.tmp 48)) w' := hall.2.2.2.2.2.2.2.2.2.2.2.2.2.2.2.2.2.2.2.2.2.2.2.2.2.2.1 _ rfl
          have e49 : (fun u _ => u = (.bool false)) (a'.eval (.tmp 49)) w' := hall.2.2.2.2.2.2.2.2.2.2.2.2.2.2.2.2.2.2.2.2.2.2.2.2.2.2.2.1 _ rfl
          have e50 : (fun u _ => u = (.bool false)) (a'.eval (.tmp 50)) w' := hall.2.2.2.2.2.2.2.2.2.2.2.2.2.2.2.2.2.2.2.2.2.2.2.2.2.2.2.2.1 _ rfl
          simp only [List.foldl_cons, List.foldl_nil, Act.put, List.setIfInBounds_toArray, List.set_cons_succ, List.set_cons_zero, e22, e23, e24, e25, e26, e27, e28, e29, e30, e31, e32, e33, e34, e35, e36, e37, e38, e39, e40, e41, e42, e43, e44, e45, e46, e47, e48, e49, e50] at hA
          clear hO hall e22 e23 e24 e25 e26 e27 e28 e29 e30 e31 e32 e33 e34 e35 e36 e37 e38 e39 e40 e41 e42 e43 e44 e45 e46 e47 e48 e49 e50
          subst hA
          have HB2 : Hid (Below w.heap.size w w') := Lib.hid (bnext HB1.out (of_drew hE))
          have HO2 := Lib.hid (own_below HOWN.out (of_drew hE))
          clear hE
          go_wp2_with (at_builtin; refine wpList_append_own _ rfl _ _ 36 rfl w.heap.size 9 i0 (.string ⟨#[]⟩) 1 16 Tryz.underlying36 hi HZ.out hz1 hz2 rfl (by decide) _ _ _ rfl (HO2.out.alloc _) ⟨w'.heap.size, 0, none⟩ 1 1 [.string (hbs r)] rfl rfl ?c1 ?c2 ?c3 ?c4 ?c5 ?_)
          case c1 => exact World.news_of_block (alloc_new_at _ rfl)
          case c2 => intro u hu; simp at hu; subst hu; rfl
          case c3 => unfold maxLen; have := HN.out; have := lenT l 0 (by omega); omega
          case c4 => have := lenT l 0 (by omega); omega
          case c5 => have := HB2.out.size; simp; omega
          intro v' w2 hown' hgrow _
          have HB3 : Hid (Below w.heap.size w w2) := Lib.hid (grownBy_below (balloc HB2.out _) hgrow (fun k hk => (HO2.out.lt k hk).1))
          have HO3 : Hid (w2.ownsRow w.heap.size 9 1 v' (len (elL (l.take (0 + 1)))) ((elL (l.take (0 + 1))).map Value.string)) := Lib.hid (by
            rw [elL_snoc l 0 HLT.out, HRE.out, List.map_append, len_appT, show len [hbs r] = 1 from rfl]; exact hown')
          clear hown' hgrow
          go_wp2
          go_roundg (gk - 1)
          case rel => exact ⟨0 + 1, by omega, by go_num, Lib.hid ⟨HB3.out, HO3.out, fun j hj => by
            by_cases e : j = 0
            · subst e; rw [HRE.out]; exact HOK.out
            · exact HS.out.y j (by omega), fun j h0 hj => by
            by_cases e : j = 0
            · omega
            · exact HS.out.s j h0 (by omega)⟩⟩
          case measure => omega
        · obtain ⟨k, rfl⟩ : ∃ k, m = k + 1 := ⟨m - 1, by omega⟩
          obtain ⟨b', off', he, ⟨f0, f1, f2, f3⟩⟩ := (HC.out.below HB1.out) k (by omega)
          cases he
          obtain ⟨g, hg⟩ : ∃ g, hnth l k = g := ⟨_, rfl⟩
          have HGO := Lib.hid (HO.out k)
          rw [hg] at f0 f1 f2 f3 HGO
          have HGE := Lib.hid hg
          obtain ⟨b', off', he, ⟨g0, g1, g2, g3⟩⟩ := (HC.out.below HB1.out) (k + 1) hlt
          cases he
          rw [HRE.out] at g0
          have HST : Hid (stepH g r = (!(r.rnd == 0) && (r.rnd - 1 == g.rnd))) := Lib.hid (step_eq g r HGO.out HRO.out)
          clear hg f1 f2 f3 g1 g2 g3 e0 e1 e2 e3
          have HFK : Hid (w1.cell? ⟨b, off + k * 4, none⟩ = some (.int .u64 g.rnd)) := Lib.hid f0
          have HEK : Hid (w1.cell? ⟨b, off + (k + 1) * 4, none⟩ = some (.int .u64 r.rnd)) := Lib.hid g0
          have hr0 := HRO.out.r0
          obtain ⟨m, hmk⟩ : ∃ m, k + 1 = m := ⟨_, rfl⟩
          have HMK := Lib.hid hmk
          clear f0 g0 hm0
          have HNN := HN.out
          rw [hmk] at HEK HLT HOWN HRE HS hlt hm b0 ⊢
          by_cases hz : r.rnd = 0
          · have HNO : Hid (elOk l = false) := Lib.hid (step_no (m := k) (by rw [HMK.out]; exact HLT.out) (by rw [HMK.out, HGE.out, HRE.out, HST.out, hz]; rfl))
            have cr : w1.cell? ⟨b, off + m * 4, none⟩ = some (.int .u64 0) := by rw [← hz]; exact HEK.out
            have cq := HFK.out
            have i1 : 0 < m := by omega
            have i2 : (m : Int) < len l := by omega
            have i3 : 0 ≤ (m : Int) := by omega
            have i4 : m < len l := hlt
            have i5 : 0 ≤ (m : Int) := by omega
            have i6 : 0 ≤ (m : Int) := by omega
            clear hz hmk hr0
            go_upto_region 6 with fail
            refine wp_region_all 1000 (none) (phis [fun u _ => u = (.int .i64 0), fun u _ => u = (.bool false), fun u _ => u = (.bool false), fun u _ => u = (.int .i64 (m : Nat)), fun u _ => u = (.bool true), fun u _ => u = (.bool true), fun u _ => u = (.slice (some ⟨b, off, none⟩) (len l) cap), fun u _ => u = (.int .i64 (m : Nat)), fun u _ => u = (.pointer (some ⟨b, off + m * 4, none⟩)), fun u _ => u = (.pointer (some ⟨b, off + m * 4, none⟩)), fun u _ => u = (.int .u64 0), fun u _ => u = (.bool true), fun u _ => u = (.bool true), fun u _ => u = undef, fun u _ => u = undef, fun u _ => u = undef, fun u _ => u = undef, fun u _ => u = undef, fun u _ => u = undef, fun u _ => u = undef, fun u _ => u = undef, fun u _ => u = undef, fun u _ => u = undef, fun u _ => u = undef, fun u _ => u = undef, fun u _ => u = undef, fun u _ => u = (.bool true), fun u _ => u = (.bool true), fun u _ => u = (.bool true)]) rfl (by kernel_rfl) (mono_of ⟨mono_eq, mono_eq, mono_eq, mono_eq, mono_eq, mono_eq, mono_eq, mono_eq, mono_eq, mono_eq, mono_eq, mono_eq, mono_eq, mono_eq, mono_eq, mono_eq, mono_eq, mono_eq, mono_eq, mono_eq, mono_eq, mono_eq, mono_eq, mono_eq, mono_eq, mono_eq, mono_eq, mono_eq, mono_eq, trivial⟩) (steps_of 29 ⟨?s0, ?s1, ?s2, ?s3, ?s4, ?s5, ?s6, ?s7, ?s8, ?s9, ?s10, ?s11, ?s12, ?s13, ?s14, ?s15, ?s16, ?s17, ?s18, ?s19, ?s20, ?s21, ?s22, ?s23, ?s24, ?s25, ?s26, ?s27, ?s28, trivial⟩) ?_
            case s0 =>
              refine step_val (v := (.int .i64 0)) (fun av wv hE hS hO hD => ?_) (fun _ => rfl)
              have h7 : av.eval (.tmp 7) = (.int .i64 0) := hO.2.2 7 rfl
              have f7 := (ev_form av 7).symm.trans h7
              refine ⟨rfl, ?_⟩
              simp [go_sem, f7, i1, i2, i3, i4, i5, i6]
            case s1 =>
              refine step_val (v := (.bool false)) (fun av wv hE hS hO hD => ?_) (fun _ => rfl)
              have d22 : av.eval (.tmp 22) = (.int .i64 0) := hD.1 rfl _ rfl
              have f22 := (ev_form av 22).symm.trans d22
              refine ⟨rfl, ?_⟩
              simp [go_sem, f22, i1, i2, i3, i4, i5, i6]
            case s2 =>
              refine step_val (v := (.bool false)) (fun av wv hE hS hO hD => ?_) (fun _ => rfl)
              have d23 : av.eval (.tmp 23) = (.bool false) := hD.1 rfl _ rfl
              have f23 := (ev_form av 23).symm.trans d23
              refine ⟨rfl, ?_⟩
              simp [go_sem, f23, i1, i2, i3, i4, i5, i6]
            case s3 =>
              refine step_val (v := (.int .i64 (m : Nat))) (fun av wv hE hS hO hD => ?_) (fun _ => rfl)
              have h5 : av.eval (.tmp 5) = (.int .i64 (m : Nat)) := hO.2.2 5 rfl
              have f5 := (ev_form av 5).symm.trans h5
              have d24 : av.eval (.tmp 24) = (.bool false) := hD.1 rfl _ rfl
              have f24 := (ev_form av 24).symm.trans d24
              refine ⟨(wanted_of (d := 24) (b := false) (want := false) rfl rfl rfl d24), ?_⟩
              simp [go_sem, f5, f24, i1, i2, i3, i4, i5, i6]
            case s4 =>
              refine step_val (v := (.bool true)) (fun av wv hE hS hO hD => ?_) (fun _ => rfl)
              have d25 : av.eval (.tmp 25) = (.int .i64 (m : Nat)) := hD.1 rfl _ rfl
              have f25 := (ev_form av 25).symm.trans d25
              have d24 : av.eval (.tmp 24) = (.bool false) := hD.2.1 rfl _ rfl
              have f24 := (ev_form av 24).symm.trans d24
              refine ⟨(wanted_of (d := 24) (b := false) (want := false) rfl rfl rfl d24), ?_⟩
              simp [go_sem, f25, f24, i1, i2, i3, i4, i5, i6]
            case s5 =>
              refine step_val (v := (.bool true)) (fun av wv hE hS hO hD => ?_) (fun _ => rfl)
              have d26 : av.eval (.tmp 26) = (.bool true) := hD.1 rfl _ rfl
              have f26 := (ev_form av 26).symm.trans d26
              have d24 : av.eval (.tmp 24) = (.bool false) := hD.2.1 rfl _ rfl
              have f24 := (ev_form av 24).symm.trans d24
              refine ⟨(wanted_of (d := 24) (b := false) (want := false) rfl rfl rfl d24), ?_⟩
              simp [go_sem, f26, f24, i1, i2, i3, i4, i5, i6]
            case s6 =>
              refine step_val (v := (.slice (some ⟨b, off, none⟩) (len l) cap)) (fun av wv hE hS hO hD => ?_) (fun _ => rfl)
              have h0 : av.eval (.tmp 0) = (.slice (some ⟨b, off, none⟩) (len l) cap) := hO.2.2 0 rfl
              have f0 := (ev_form av 0).symm.trans h0
              have d27 : av.eval (.tmp 27) = (.bool true) := hD.1 rfl _ rfl
              have f27 := (ev_form av 27).symm.trans d27
              refine ⟨(wanted_of (d := 27) (b := true) (want := true) rfl rfl rfl d27), ?_⟩
              simp [go_sem, f0, f27, i1, i2, i3, i4, i5, i6]
            case s7 =>
              refine step_val (v := (.int .i64 (m : Nat))) (fun av wv hE hS hO hD => ?_) (fun _ => rfl)
              have h5 : av.eval (.tmp 5) = (.int .i64 (m : Nat)) := hO.2.2 5 rfl
              have f5 := (ev_form av 5).symm.trans h5
              have d27 : av.eval (.tmp 27) = (.bool true) := hD.1 rfl _ rfl
              have f27 := (ev_form av 27).symm.trans d27
              refine ⟨(wanted_of (d := 27) (b := true) (want := true) rfl rfl rfl d27), ?_⟩
              simp [go_sem, f5, f27, i1, i2, i3, i4, i5, i6]
            case s8 =>
              refine step_val (v := (.pointer (some ⟨b, off + m * 4, none⟩))) (fun av wv hE hS hO hD => ?_) (fun _ => rfl)
              have d28 : av.eval (.tmp 28) = (.slice (some ⟨b, off, none⟩) (len l) cap) := hD.1 rfl _ rfl
              have f28 := (ev_form av 28).symm.trans d28
              have d29 : av.eval (.tmp 29) = (.int .i64 (m : Nat)) := hD.2.1 rfl _ rfl
              have f29 := (ev_form av 29).symm.trans d29
              have d27 : av.eval (.tmp 27) = (.bool true) := hD.2.2.1 rfl _ rfl
              have f27 := (ev_form av 27).symm.trans d27
              refine ⟨(wanted_of (d := 27) (b := true) (want := true) rfl rfl rfl d27), ?_⟩
              simp [go_sem, f28, f29, f27, i1, i2, i3, i4, i5, i6]
            case s9 =>
              refine step_val (v := (.pointer (some ⟨b, off + m * 4, none⟩))) (fun av wv hE hS hO hD => ?_) (fun _ => rfl)
              have d30 : av.eval (.tmp 30) = (.pointer (some ⟨b, off + m * 4, none⟩)) := hD.1 rfl _ rfl
              have f30 := (ev_form av 30).symm.trans d30
              have d27 : av.eval (.tmp 27) = (.bool true) := hD.2.1 rfl _ rfl
              have f27 := (ev_form av 27).symm.trans d27
              refine ⟨(wanted_of (d := 27) (b := true) (want := true) rfl rfl rfl d27), ?_⟩
              simp [go_sem, f30, f27, i1, i2, i3, i4, i5, i6]
            case s10 =>
              refine step_val (v := (.int .u64 0)) (fun av wv hE hS hO hD => ?_) (fun _ => rfl)
              have d31 : av.eval (.tmp 31) = (.pointer (some ⟨b, off + m * 4, none⟩)) := hD.1 rfl _ rfl
              have f31 := (ev_form av 31).symm.trans d31
              have d27 : av.eval (.tmp 27) = (.bool true) := hD.2.1 rfl _ rfl
              have f27 := (ev_form av 27).symm.trans d27
              have cr := extB_cell hE (by simp) cr
              have cq := extB_cell hE (by simp) cq
              refine ⟨(wanted_of (d := 27) (b := true) (want := true) rfl rfl rfl d27), ?_⟩
              simp [go_sem, f31, f27, cr, cq, i1, i2, i3, i4, i5, i6]
            case s11 =>
              refine step_val (v := (.bool true)) (fun av wv hE hS hO hD => ?_) (fun _ => rfl)
              have d32 : av.eval (.tmp 32) = (.int .u64 0) := hD.1 rfl _ rfl
              have f32 := (ev_form av 32).symm.trans d32
              have d27 : av.eval (.tmp 27) = (.bool true) := hD.2.1 rfl _ rfl
              have f27 := (ev_form av 27).symm.trans d27
              refine ⟨(wanted_of (d := 27) (b := true) (want := true) rfl rfl rfl d27), ?_⟩
              simp [go_sem, f32, f27, i1, i2, i3, i4, i5, i6]
            case s12 =>
              refine step_val (v := (.bool true)) (fun av wv hE hS hO hD => ?_) (fun _ => rfl)
              have d33 : av.eval (.tmp 33) = (.bool true) := hD.1 rfl _ rfl
              have f33 := (ev_form av 33).symm.trans d33
              have d27 : av.eval (.tmp 27) = (.bool true) := hD.2.1 rfl _ rfl
              have f27 := (ev_form av 27).symm.trans d27
              refine ⟨(wanted_of (d := 27) (b := true) (want := true) rfl rfl rfl d27), ?_⟩
              simp [go_sem, f33, f27, i1, i2, i3, i4, i5, i6]
            case s13 =>
              refine step_skip (fun av wv hE hS hO hD => ?_) (fun _ => rfl)
              have h0 : av.eval (.tmp 0) = (.slice (some ⟨b, off, none⟩) (len l) cap) := hO.2.2 0 rfl
              have f0 := (ev_form av 0).symm.trans h0
              have d34 : av.eval (.tmp 34) = (.bool true) := hD.1 rfl _ rfl
              have f34 := (ev_form av 34).symm.trans d34
              exact (wanted_of (d := 34) (b := true) (want := false) rfl rfl rfl d34)
            case s14 =>
              refine step_skip (fun av wv hE hS hO hD => ?_) (fun _ => rfl)
              have h5 : av.eval (.tmp 5) = (.int .i64 (m : Nat)) := hO.2.2 5 rfl
              have f5 := (ev_form av 5).symm.trans h5
              have d34 : av.eval (.tmp 34) = (.bool true) := hD.1 rfl _ rfl
              have f34 := (ev_form av 34).symm.trans d34
              exact (wanted_of (d := 34) (b := true) (want := false) rfl rfl rfl d34)
            case s15 =>
              refine step_skip (fun av wv hE hS hO hD => ?_) (fun _ => rfl)
              have d35 : av.eval (.tmp 35) = (undef) := hD.1 rfl _ rfl
              have f35 := (ev_form av 35).symm.trans d35
              have d36 : av.eval (.tmp 36) = (undef) := hD.2.1 rfl _ rfl
              have f36 := (ev_form av 36).symm.trans d36
              have d34 : av.eval (.tmp 34) = (.bool true) := hD.2.2.1 rfl _ rfl
              have f34 := (ev_form av 34).symm.trans d34
              exact (wanted_of (d := 34) (b := true) (want := false) rfl rfl rfl d34)
            case s16 =>
              refine step_skip (fun av wv hE hS hO hD => ?_) (fun _ => rfl)
              have d37 : av.eval (.tmp 37) = (undef) := hD.1 rfl _ rfl
              have f37 := (ev_form av 37).symm.trans d37
              have d34 : av.eval (.tmp 34) = (.bool true) := hD.2.1 rfl _ rfl
              have f34 := (ev_form av 34).symm.trans d34
              exact (wanted_of (d := 34) (b := true) (want := false) rfl rfl rfl d34)
            case s17 =>
              refine step_skip (fun av wv hE hS hO hD => ?_) (fun _ => rfl)
              have d38 : av.eval (.tmp 38) = (undef) := hD.1 rfl _ rfl
              have f38 := (ev_form av 38).symm.trans d38
              have d34 : av.eval (.tmp 34) = (.bool true) := hD.2.1 rfl _ rfl
              have f34 := (ev_form av 34).symm.trans d34
              exact (wanted_of (d := 34) (b := true) (want := false) rfl rfl rfl d34)
            case s18 =>
              refine step_skip (fun av wv hE hS hO hD => ?_) (fun _ => rfl)
              have d39 : av.eval (.tmp 39) = (undef) := hD.1 rfl _ rfl
              have f39 := (ev_form av 39).symm.trans d39
              have d34 : av.eval (.tmp 34) = (.bool true) := hD.2.1 rfl _ rfl
              have f34 := (ev_form av 34).symm.trans d34
              exact (wanted_of (d := 34) (b := true) (want := false) rfl rfl rfl d34)
            case s19 =>
              refine step_skip (fun av wv hE hS hO hD => ?_) (fun _ => rfl)
              have h0 : av.eval (.tmp 0) = (.slice (some ⟨b, off, none⟩) (len l) cap) := hO.2.2 0 rfl
              have f0 := (ev_form av 0).symm.trans h0
              have d34 : av.eval (.tmp 34) = (.bool true) := hD.1 rfl _ rfl
              have f34 := (ev_form av 34).symm.trans d34
              exact (wanted_of (d := 34) (b := true) (want := false) rfl rfl rfl d34)
            case s20 =>
              refine step_skip (fun av wv hE hS hO hD => ?_) (fun _ => rfl)
              have h5 : av.eval (.tmp 5) = (.int .i64 (m : Nat)) := hO.2.2 5 rfl
              have f5 := (ev_form av 5).symm.trans h5
              have d34 : av.eval (.tmp 34) = (.bool true) := hD.1 rfl _ rfl
              have f34 := (ev_form av 34).symm.trans d34
              exact (wanted_of (d := 34) (b := true) (want := false) rfl rfl rfl d34)
            case s21 =>
              refine step_skip (fun av wv hE hS hO hD => ?_) (fun _ => rfl)
              have d42 : av.eval (.tmp 42) = (undef) := hD.1 rfl _ rfl
              have f42 := (ev_form av 42).symm.trans d42
              have d34 : av.eval (.tmp 34) = (.bool true) := hD.2.1 rfl _ rfl
              have f34 := (ev_form av 34).symm.trans d34
              exact (wanted_of (d := 34) (b := true) (want := false) rfl rfl rfl d34)
            case s22 =>
              refine step_skip (fun av wv hE hS hO hD => ?_) (fun _ => rfl)
              have d41 : av.eval (.tmp 41) = (undef) := hD.1 rfl _ rfl
              have f41 := (ev_form av 41).symm.trans d41
              have d43 : av.eval (.tmp 43) = (undef) := hD.2.1 rfl _ rfl
              have f43 := (ev_form av 43).symm.trans d43
              have d34 : av.eval (.tmp 34) = (.bool true) := hD.2.2.1 rfl _ rfl
              have f34 := (ev_form av 34).symm.trans d34
              exact (wanted_of (d := 34) (b := true) (want := false) rfl rfl rfl d34)
            case s23 =>
              refine step_skip (fun av wv hE hS hO hD => ?_) (fun _ => rfl)
              have d44 : av.eval (.tmp 44) = (undef) := hD.1 rfl _ rfl
              have f44 := (ev_form av 44).symm.trans d44
              have d34 : av.eval (.tmp 34) = (.bool true) := hD.2.1 rfl _ rfl
              have f34 := (ev_form av 34).symm.trans d34
              exact (wanted_of (d := 34) (b := true) (want := false) rfl rfl rfl d34)
            case s24 =>
              refine step_skip (fun av wv hE hS hO hD => ?_) (fun _ => rfl)
              have d45 : av.eval (.tmp 45) = (undef) := hD.1 rfl _ rfl
              have f45 := (ev_form av 45).symm.trans d45
              have d34 : av.eval (.tmp 34) = (.bool true) := hD.2.1 rfl _ rfl
              have f34 := (ev_form av 34).symm.trans d34
              exact (wanted_of (d := 34) (b := true) (want := false) rfl rfl rfl d34)
            case s25 =>
              refine step_skip (fun av wv hE hS hO hD => ?_) (fun _ => rfl)
              have d40 : av.eval (.tmp 40) = (undef) := hD.1 rfl _ rfl
              have f40 := (ev_form av 40).symm.trans d40
              have d46 : av.eval (.tmp 46) = (undef) := hD.2.1 rfl _ rfl
              have f46 := (ev_form av 46).symm.trans d46
              have d34 : av.eval (.tmp 34) = (.bool true) := hD.2.2.1 rfl _ rfl
              have f34 := (ev_form av 34).symm.trans d34
              exact (wanted_of (d := 34) (b := true) (want := false) rfl rfl rfl d34)
            case s26 =>
              refine step_val (v := (.bool true)) (fun av wv hE hS hO hD => ?_) (fun _ => rfl)
              have d34 : av.eval (.tmp 34) = (.bool true) := hD.1 rfl _ rfl
              have f34 := (ev_form av 34).symm.trans d34
              have d47 : av.eval (.tmp 47) = (undef) := hD.2.1 rfl _ rfl
              have f47 := (ev_form av 47).symm.trans d47
              have d27 : av.eval (.tmp 27) = (.bool true) := hD.2.2.1 rfl _ rfl
              have f27 := (ev_form av 27).symm.trans d27
              refine ⟨(wanted_of (d := 27) (b := true) (want := true) rfl rfl rfl d27), ?_⟩
              simp [go_sem, f34, f47, f27, i1, i2, i3, i4, i5, i6]
            case s27 =>
              refine step_val (v := (.bool true)) (fun av wv hE hS hO hD => ?_) (fun _ => rfl)
              have d27 : av.eval (.tmp 27) = (.bool true) := hD.1 rfl _ rfl
              have f27 := (ev_form av 27).symm.trans d27
              have d48 : av.eval (.tmp 48) = (.bool true) := hD.2.1 rfl _ rfl
              have f48 := (ev_form av 48).symm.trans d48
              have d24 : av.eval (.tmp 24) = (.bool false) := hD.2.2.1 rfl _ rfl
              have f24 := (ev_form av 24).symm.trans d24
              refine ⟨(wanted_of (d := 24) (b := false) (want := false) rfl rfl rfl d24), ?_⟩
              simp [go_sem, f27, f48, f24, i1, i2, i3, i4, i5, i6]
            case s28 =>
              refine step_val (v := (.bool true)) (fun av wv hE hS hO hD => ?_) (fun _ => rfl)
              have d24 : av.eval (.tmp 24) = (.bool false) := hD.1 rfl _ rfl
              have f24 := (ev_form av 24).symm.trans d24
              have d49 : av.eval (.tmp 49) = (.bool true) := hD.2.1 rfl _ rfl
              have f49 := (ev_form av 49).symm.trans d49
              refine ⟨rfl, ?_⟩
              simp [go_sem, f24, f49, i1, i2, i3, i4, i5, i6]
            intro a' w' hE hO hall
            have hA := act_of_outer (ds := [22, 23, 24, 25, 26, 27, 28, 29, 30, 31, 32, 33, 34, 35, 36, 37, 38, 39, 40, 41, 42, 43, 44, 45, 46, 47, 48, 49, 50]) rfl hO (by kernel_rfl)
            have e22 : (fun u _ => u = (.int .i64 0)) (a'.eval (.tmp 22)) w' := hall.1 _ rfl
            have e23 : (fun u _ => u = (.bool false)) (a'.eval (.tmp 23)) w' := hall.2.1 _ rfl
            have e24 : (fun u _ => u = (.bool false)) (a'.eval (.tmp 24)) w' := hall.2.2.1 _ rfl
            have e25 : (fun u _ => u = (.int .i64 (m : Nat))) (a'.eval (.tmp 25)) w' := hall.2.2.2.1 _ rfl
            have e26 : (fun u _ => u = (.bool true)) (a'.eval (.tmp 26)) w' := hall.2.2.2.2.1 _ rfl
            have e27 : (fun u _ => u = (.bool true)) (a'.eval (.tmp 27)) w' := hall.2.2.2.2.2.1 _ rfl
            have e28 : (fun u _ => u = (.slice (some ⟨b, off, none⟩) (len l) cap)) (a'.eval (.tmp 28)) w' := hall.2.2.2.2.2.2.1 _ rfl
            have e29 : (fun u _ => u = (.int .i64 (m : Nat))) (a'.eval (.tmp 29)) w' := hall.2.2.2.2.2.2.2.1 _ rfl
            have e30 : (fun u _ => u = (.pointer (some ⟨b, off + m * 4, none⟩))) (a'.eval (.tmp 30)) w' := hall.2.2.2.2.2.2.2.2.1 _ rfl
            have e31 : (fun u _ => u = (.pointer (some ⟨b, off + m * 4, none⟩))) (a'.eval (.tmp 31)) w' := hall.2.2.2.2.2.2.2.2.2.1 _ rfl
            have e32 : (fun u _ => u = (.int .u64 0)) (a'.eval (.tmp 32)) w' := hall.2.2.2.2.2.2.2.2.2.2.1 _ rfl
            have e33 : (fun u _ => u = (.bool true)) (a'.eval (.tmp 33)) w' := hall.2.2.2.2.2.2.2.2.2.2.2.1 _ rfl
            have e34 : (fun u _ => u = (.bool true)) (a'.eval (.tmp 34)) w' := hall.2.2.2.2.2.2.2.2.2.2.2.2.1 _ rfl
            have e35 : (fun u _ => u = undef) (a'.eval (.tmp 35)) w' := hall.2.2.2.2.2.2.2.2.2.2.2.2.2.1 _ rfl
            have e36 : (fun u _ => u = undef) (a'.eval (.tmp 36)) w' := hall.2.2.2.2.2.2.2.2.2.2.2.2.2.2.1 _ rfl
            have e37 : (fun u _ => u = undef) (a'.eval (.tmp 37)) w' := hall.2.2.2.2.2.2.2.2.2.2.2.2.2.2.2.1 _ rfl
            have e38 : (fun u _ => u = undef) (a'.eval (.tmp 38)) w' := hall.2.2.2.2.2.2.2.2.2.2.2.2.2.2.2.2.1 _ rfl
            have e39 : (fun u _ => u = undef) (a'.eval (.tmp 39)) w' := hall.2.2.2.2.2.2.2.2.2.2.2.2.2.2.2.2.2.1 _ rfl
            have e40 : (fun u _ => u = undef) (a'.eval (.tmp 40)) w' := hall.2.2.2.2.2.2.2.2.2.2.2.2.2.2.2.2.2.2.1 _ rfl
            have e41 : (fun u _ => u = undef) (a'.eval (.tmp 41)) w' := hall.2.2.2.2.2.2.2.2.2.2.2.2.2.2.2.2.2.2.2.1 _ rfl
            have e42 : (fun u _ => u = undef) (a'.eval (.tmp 42)) w' := hall.2.2.2.2.2.2.2.2.2.2.2.2.2.2.2.2.2.2.2.2.1 _ rfl
            have e43 : (fun u _ => u = undef) (a'.eval (.tmp 43)) w' := hall.2.2.2.2.2.2.2.2.2.2.2.2.2.2.2.2.2.2.2.2.2.1 _ rfl
            have e44 : (fun u _ => u = undef) (a'.eval (.tmp 44)) w' := hall.2.2.2.2.2.2.2.2.2.2.2.2.2.2.2.2.2.2.2.2.2.2.1 _ rfl
            have e45 : (fun u _ => u = undef) (a'.eval (.tmp 45)) w' := hall.2.2.2.2.2.2.2.2.2.2.2.2.2.2.2.2.2.2.2.2.2.2.2.1 _ rfl
            have e46 : (fun u _ => u = undef) (a'.eval (.tmp 46)) w' := hall.2.2.2.2.2.2.2.2.2.2.2.2.2.2.2.2.2.2.2.2.2.2.2.2.1 _ rfl
            have e47 : (fun u _ => u = undef) (a'.eval (.tmp 47)) w' := hall.2.2.2.2.2.2.2.2.2.2.2.2.2.2.2.2.2.2.2.2.2.2.2.2.2.1 _ rfl
            have e48 : (fun u _ => u = (.bool true)) (a'.eval (.tmp 48)) w' := hall.2.2.2.2.2.2.2.2.2.2.2.2.2.2.2.2.2.2.2.2.2.2.2.2.2.2.1 _ rfl
            have e49 : (fun u _ => u = (.bool true)) (a'.eval (.tmp 49)) w' := hall.2.2.2.2.2.2.2.2.2.2.2.2.2.2.2.2.2.2.2.2.2.2.2.2.2.2.2.1 _ rfl
            have e50 : (fun u _ => u = (.bool true)) (a'.eval (.tmp 50)) w' := hall.2.2.2.2.2.2.2.2.2.2.2.2.2.2.2.2.2.2.2.2.2.2.2.2.2.2.2.2.1 _ rfl
            simp only [List.foldl_cons, List.foldl_nil, Act.put, List.setIfInBounds_toArray, List.set_cons_succ, List.set_cons_zero, e22, e23, e24, e25, e26, e27, e28, e29, e30, e31, e32, e33, e34, e35, e36, e37, e38, e39, e40, e41, e42, e43, e44, e45, e46, e47, e48, e49, e50] at hA
            clear hO hall e22 e23 e24 e25 e26 e27 e28 e29 e30 e31 e32 e33 e34 e35 e36 e37 e38 e39 e40 e41 e42 e43 e44 e45 e46 e47 e48 e49 e50
            subst hA
            have HB2 : Hid (Below w.heap.size w w') := Lib.hid (bnext HB1.out (of_drew hE))
            clear hE
            go_wp2
            go_ret2
            exact ⟨.slice none 0 0, by rw [HNO.out]; rfl, fun h => absurd h (by rw [HNO.out]; decide), HB2.out⟩
          · obtain ⟨rr, hrr⟩ : ∃ rr, r.rnd = rr := ⟨_, rfl⟩
            obtain ⟨q, hq⟩ : ∃ q, g.rnd = q := ⟨_, rfl⟩
            have HRR := Lib.hid hrr
            have HQQ := Lib.hid hq
            have hq0 := HGO.out.r0
            have cr : w1.cell? ⟨b, off + m * 4, none⟩ = some (.int .u64 rr) := by rw [← hrr]; exact HEK.out
            have cq : w1.cell? ⟨b, off + k * 4, none⟩ = some (.int .u64 q) := by rw [← hq]; exact HFK.out
            rw [hrr] at hz hr0
            rw [hq] at hq0
            have hr1 := hr0.1
            have hr2 := hr0.2
            have HZZ := Lib.hid hz
            obtain ⟨y, hy0⟩ : ∃ y, (rr - 1 == q) = y := ⟨_, rfl⟩
            have HY := Lib.hid hy0
            have hy : (rr - 1 != q) = !y := by rw [← hy0]; rfl
            clear hy0
            have i1 : 0 < m := by omega
            have i2 : (m : Int) < len l := by omega
            have i3 : (rr == 0) = false := by simpa using hz
            have i4 : IntKind.u64.wrap (rr - 1) = rr - 1 := IntWalk.u64_in _ (by omega)
            have i5 : IntKind.i64.wrap ((m : Int) - 1) = (k : Int) := by rw [IntWalk.i64_in _ (by omega)]; omega
            have i6 : (k : Int) < len l := by omega
            clear hz hmk hr0 hq0 hr1 hr2 hrr hq
            go_upto_region 6 with fail
            refine wp_region_all 1000 (none) (phis [fun u _ => u = (.int .i64 0), fun u _ => u = (.bool false), fun u _ => u = (.bool false), fun u _ => u = (.int .i64 (m : Nat)), fun u _ => u = (.bool true), fun u _ => u = (.bool true), fun u _ => u = (.slice (some ⟨b, off, none⟩) (len l) cap), fun u _ => u = (.int .i64 (m : Nat)), fun u _ => u = (.pointer (some ⟨b, off + m * 4, none⟩)), fun u _ => u = (.pointer (some ⟨b, off + m * 4, none⟩)), fun u _ => u = (.int .u64 rr), fun u _ => u = (.bool false), fun u _ => u = (.bool false), fun u _ => u = (.slice (some ⟨b, off, none⟩) (len l) cap), fun u _ => u = (.int .i64 (m : Nat)), fun u _ => u = (.pointer (some ⟨b, off + m * 4, none⟩)), fun u _ => u = (.pointer (some ⟨b, off + m * 4, none⟩)), fun u _ => u = (.int .u64 rr), fun u _ => u = (.int .u64 (rr - 1)), fun u _ => u = (.slice (some ⟨b, off, none⟩) (len l) cap), fun u _ => u = (.int .i64 (m : Nat)), fun u _ => u = (.int .i64 (k : Nat)), fun u _ => u = (.pointer (some ⟨b, off + k * 4, none⟩)), fun u _ => u = (.pointer (some ⟨b, off + k * 4, none⟩)), fun u _ => u = (.int .u64 q), fun u _ => u = (.bool (!y)), fun u _ => u = (.bool (!y)), fun u _ => u = (.bool (!y)), fun u _ => u = (.bool (!y))]) rfl (by kernel_rfl) (mono_of ⟨mono_eq, mono_eq, mono_eq, mono_eq, mono_eq, mono_eq, mono_eq, mono_eq, mono_eq, mono_eq, mono_eq, mono_eq, mono_eq, mono_eq, mono_eq, mono_eq, mono_eq, mono_eq, mono_eq, mono_eq, mono_eq, mono_eq, mono_eq, mono_eq, mono_eq, mono_eq, mono_eq, mono_eq, mono_eq, trivial⟩) (steps_of 29 ⟨?s0, ?s1, ?s2, ?s3, ?s4, ?s5, ?s6, ?s7, ?s8, ?s9, ?s10, ?s11, ?s12, ?s13, ?s14, ?s15, ?s16, ?s17, ?s18, ?s19, ?s20, ?s21, ?s22, ?s23, ?s24, ?s25, ?s26, ?s27, ?s28, trivial⟩) ?_
            case s0 =>
              refine step_val (v := (.int .i64 0)) (fun av wv hE hS hO hD => ?_) (fun _ => rfl)
              have h7 : av.eval (.tmp 7) = (.int .i64 0) := hO.2.2 7 rfl
              have f7 := (ev_form av 7).symm.trans h7
              refine ⟨rfl, ?_⟩
              simp [go_sem, f7, i1, i2, i3, i4, i5, i6, hy]
            case s1 =>
              refine step_val (v := (.bool false)) (fun av wv hE hS hO hD => ?_) (fun _ => rfl)
              have d22 : av.eval (.tmp 22) = (.int .i64 0) := hD.1 rfl _ rfl
              have f22 := (ev_form av 22).symm.trans d22
              refine ⟨rfl, ?_⟩
              simp [go_sem, f22, i1, i2, i3, i4, i5, i6, hy]
            case s2 =>
              refine step_val (v := (.bool false)) (fun av wv hE hS hO hD => ?_) (fun _ => rfl)
              have d23 : av.eval (.tmp 23) = (.bool false) := hD.1 rfl _ rfl
              have f23 := (ev_form av 23).symm.trans d23
              refine ⟨rfl, ?_⟩
              simp [go_sem, f23, i1, i2, i3, i4, i5, i6, hy]
            case s3 =>
              refine step_val (v := (.int .i64 (m : Nat))) (fun av wv hE hS hO hD => ?_) (fun _ => rfl)
              have h5 : av.eval (.tmp 5) = (.int .i64 (m : Nat)) := hO.2.2 5 rfl
              have f5 := (ev_form av 5).symm.trans h5
              have d24 : av.eval (.tmp 24) = (.bool false) := hD.1 rfl _ rfl
              have f24 := (ev_form av 24).symm.trans d24
              refine ⟨(wanted_of (d := 24) (b := false) (want := false) rfl rfl rfl d24), ?_⟩
              simp [go_sem, f5, f24, i1, i2, i3, i4, i5, i6, hy]
            case s4 =>
              refine step_val (v := (.bool true)) (fun av wv hE hS hO hD => ?_) (fun _ => rfl)
              have d25 : av.eval (.tmp 25) = (.int .i64 (m : Nat)) := hD.1 rfl _ rfl
              have f25 := (ev_form av 25).symm.trans d25
              have d24 : av.eval (.tmp 24) = (.bool false) := hD.2.1 rfl _ rfl
              have f24 := (ev_form av 24).symm.trans d24
              refine ⟨(wanted_of (d := 24) (b := false) (want := false) rfl rfl rfl d24), ?_⟩
              simp [go_sem, f25, f24, i1, i2, i3, i4, i5, i6, hy]
            case s5 =>
              refine step_val (v := (.bool true)) (fun av wv hE hS hO hD => ?_) (fun _ => rfl)
              have d26 : av.eval (.tmp 26) = (.bool true) := hD.1 rfl _ rfl
              have f26 := (ev_form av 26).symm.trans d26
              have d24 : av.eval (.tmp 24) = (.bool false) := hD.2.1 rfl _ rfl
              have f24 := (ev_form av 24).symm.trans d24
              refine ⟨(wanted_of (d := 24) (b := false) (want := false) rfl rfl rfl d24), ?_⟩
              simp [go_sem, f26, f24, i1, i2, i3, i4, i5, i6, hy]
            case s6 =>
              refine step_val (v := (.slice (some ⟨b, off, none⟩) (len l) cap)) (fun av wv hE hS hO hD => ?_) (fun _ => rfl)
              have h0 : av.eval (.tmp 0) = (.slice (some ⟨b, off, none⟩) (len l) cap) := hO.2.2 0 rfl
              have f0 := (ev_form av 0).symm.trans h0
              have d27 : av.eval (.tmp 27) = (.bool true) := hD.1 rfl _ rfl
              have f27 := (ev_form av 27).symm.trans d27
              refine ⟨(wanted_of (d := 27) (b := true) (want := true) rfl rfl rfl d27), ?_⟩
              simp [go_sem, f0, f27, i1, i2, i3, i4, i5, i6, hy]
            case s7 =>
              refine step_val (v := (.int .i64 (m : Nat))) (fun av wv hE hS hO hD => ?_) (fun _ => rfl)
              have h5 : av.eval (.tmp 5) = (.int .i64 (m : Nat)) := hO.2.2 5 rfl
              have f5 := (ev_form av 5).symm.trans h5
              have d27 : av.eval (.tmp 27) = (.bool true) := hD.1 rfl _ rfl
              have f27 := (ev_form av 27).symm.trans d27
              refine ⟨(wanted_of (d := 27) (b := true) (want := true) rfl rfl rfl d27), ?_⟩
              simp [go_sem, f5, f27, i1, i2, i3, i4, i5, i6, hy]
            case s8 =>
              refine step_val (v := (.pointer (some ⟨b, off + m * 4, none⟩))) (fun av wv hE hS hO hD => ?_) (fun _ => rfl)
              have d28 : av.eval (.tmp 28) = (.slice (some ⟨b, off, none⟩) (len l) cap) := hD.1 rfl _ rfl
              have f28 := (ev_form av 28).symm.trans d28
              have d29 : av.eval (.tmp 29) = (.int .i64 (m : Nat)) := hD.2.1 rfl _ rfl
              have f29 := (ev_form av 29).symm.trans d29
              have d27 : av.eval (.tmp 27) = (.bool true) := hD.2.2.1 rfl _ rfl
              have f27 := (ev_form av 27).symm.trans d27
              refine ⟨(wanted_of (d := 27) (b := true) (want := true) rfl rfl rfl d27), ?_⟩
              simp [go_sem, f28, f29, f27, i1, i2, i3, i4, i5, i6, hy]
            case s9 =>
              refine step_val (v := (.pointer (some ⟨b, off + m * 4, none⟩))) (fun av wv hE hS hO hD => ?_) (fun _ => rfl)
              have d30 : av.eval (.tmp 30) = (.pointer (some ⟨b, off + m * 4, none⟩)) := hD.1 rfl _ rfl
              have f30 := (ev_form av 30).symm.trans d30
              have d27 : av.eval (.tmp 27) = (.bool true) := hD.2.1 rfl _ rfl
              have f27 := (ev_form av 27).symm.trans d27
              refine ⟨(wanted_of (d := 27) (b := true) (want := true) rfl rfl rfl d27), ?_⟩
              simp [go_sem, f30, f27, i1, i2, i3, i4, i5, i6, hy]
            case s10 =>
              refine step_val (v := (.int .u64 rr)) (fun av wv hE hS hO hD => ?_) (fun _ => rfl)
              have d31 : av.eval (.tmp 31) = (.pointer (some ⟨b, off + m * 4, none⟩)) := hD.1 rfl _ rfl
              have f31 := (ev_form av 31).symm.trans d31
              have d27 : av.eval (.tmp 27) = (.bool true) := hD.2.1 rfl _ rfl
              have f27 := (ev_form av 27).symm.trans d27
              have cr := extB_cell hE (by simp) cr
              have cq := extB_cell hE (by simp) cq
              refine ⟨(wanted_of (d := 27) (b := true) (want := true) rfl rfl rfl d27), ?_⟩
              simp [go_sem, f31, f27, cr, cq, i1, i2, i3, i4, i5, i6, hy]
            case s11 =>
              refine step_val (v := (.bool false)) (fun av wv hE hS hO hD => ?_) (fun _ => rfl)
              have d32 : av.eval (.tmp 32) = (.int .u64 rr) := hD.1 rfl _ rfl
              have f32 := (ev_form av 32).symm.trans d32
              have d27 : av.eval (.tmp 27) = (.bool true) := hD.2.1 rfl _ rfl
              have f27 := (ev_form av 27).symm.trans d27
              refine ⟨(wanted_of (d := 27) (b := true) (want := true) rfl rfl rfl d27), ?_⟩
              simp [go_sem, f32, f27, i1, i2, i3, i4, i5, i6, hy]
            case s12 =>
              refine step_val (v := (.bool false)) (fun av wv hE hS hO hD => ?_) (fun _ => rfl)
              have d33 : av.eval (.tmp 33) = (.bool false) := hD.1 rfl _ rfl
              have f33 := (ev_form av 33).symm.trans d33
              have d27 : av.eval (.tmp 27) = (.bool true) := hD.2.1 rfl _ rfl
              have f27 := (ev_form av 27).symm.trans d27
              refine ⟨(wanted_of (d := 27) (b := true) (want := true) rfl rfl rfl d27), ?_⟩
              simp [go_sem, f33, f27, i1, i2, i3, i4, i5, i6, hy]
            case s13 =>
              refine step_val (v := (.slice (some ⟨b, off, none⟩) (len l) cap)) (fun av wv hE hS hO hD => ?_) (fun _ => rfl)
              have h0 : av.eval (.tmp 0) = (.slice (some ⟨b, off, none⟩) (len l) cap) := hO.2.2 0 rfl
              have f0 := (ev_form av 0).symm.trans h0
              have d34 : av.eval (.tmp 34) = (.bool false) := hD.1 rfl _ rfl
              have f34 := (ev_form av 34).symm.trans d34
              refine ⟨(wanted_of (d := 34) (b := false) (want := false) rfl rfl rfl d34), ?_⟩
              simp [go_sem, f0, f34, i1, i2, i3, i4, i5, i6, hy]
            case s14 =>
              refine step_val (v := (.int .i64 (m : Nat))) (fun av wv hE hS hO hD => ?_) (fun _ => rfl)
              have h5 : av.eval (.tmp 5) = (.int .i64 (m : Nat)) := hO.2.2 5 rfl
              have f5 := (ev_form av 5).symm.trans h5
              have d34 : av.eval (.tmp 34) = (.bool false) := hD.1 rfl _ rfl
              have f34 := (ev_form av 34).symm.trans d34
              refine ⟨(wanted_of (d := 34) (b := false) (want := false) rfl rfl rfl d34), ?_⟩
              simp [go_sem, f5, f34, i1, i2, i3, i4, i5, i6, hy]
            case s15 =>
              refine step_val (v := (.pointer (some ⟨b, off + m * 4, none⟩))) (fun av wv hE hS hO hD => ?_) (fun _ => rfl)
              have d35 : av.eval (.tmp 35) = (.slice (some ⟨b, off, none⟩) (len l) cap) := hD.1 rfl _ rfl
              have f35 := (ev_form av 35).symm.trans d35
              have d36 : av.eval (.tmp 36) = (.int .i64 (m : Nat)) := hD.2.1 rfl _ rfl
              have f36 := (ev_form av 36).symm.trans d36
              have d34 : av.eval (.tmp 34) = (.bool false) := hD.2.2.1 rfl _ rfl
              have f34 := (ev_form av 34).symm.trans d34
              refine ⟨(wanted_of (d := 34) (b := false) (want := false) rfl rfl rfl d34), ?_⟩
              simp [go_sem, f35, f36, f34, i1, i2, i3, i4, i5, i6, hy]
            case s16 =>
              refine step_val (v := (.pointer (some ⟨b, off + m * 4, none⟩))) (fun av wv hE hS hO hD => ?_) (fun _ => rfl)
              have d37 : av.eval (.tmp 37) = (.pointer (some ⟨b, off + m * 4, none⟩)) := hD.1 rfl _ rfl
              have f37 := (ev_form av 37).symm.trans d37
              have d34 : av.eval (.tmp 34) = (.bool false) := hD.2.1 rfl _ rfl
              have f34 := (ev_form av 34).symm.trans d34
              refine ⟨(wanted_of (d := 34) (b := false) (want := false) rfl rfl rfl d34), ?_⟩
              simp [go_sem, f37, f34, i1, i2, i3, i4, i5, i6, hy]
            case s17 =>
              refine step_val (v := (.int .u64 rr)) (fun av wv hE hS hO hD => ?_) (fun _ => rfl)
              have d38 : av.eval (.tmp 38) = (.pointer (some ⟨b, off + m * 4, none⟩)) := hD.1 rfl _ rfl
              have f38 := (ev_form av 38).symm.trans d38
              have d34 : av.eval (.tmp 34) = (.bool false) := hD.2.1 rfl _ rfl
              have f34 := (ev_form av 34).symm.trans d34
              have cr := extB_cell hE (by simp) cr
              have cq := extB_cell hE (by simp) cq
              refine ⟨(wanted_of (d := 34) (b := false) (want := false) rfl rfl rfl d34), ?_⟩
              simp [go_sem, f38, f34, cr, cq, i1, i2, i3, i4, i5, i6, hy]
            case s18 =>
              refine step_val (v := (.int .u64 (rr - 1))) (fun av wv hE hS hO hD => ?_) (fun _ => rfl)
              have d39 : av.eval (.tmp 39) = (.int .u64 rr) := hD.1 rfl _ rfl
              have f39 := (ev_form av 39).symm.trans d39
              have d34 : av.eval (.tmp 34) = (.bool false) := hD.2.1 rfl _ rfl
              have f34 := (ev_form av 34).symm.trans d34
              refine ⟨(wanted_of (d := 34) (b := false) (want := false) rfl rfl rfl d34), ?_⟩
              simp [go_sem, f39, f34, i1, i2, i3, i4, i5, i6, hy]
            case s19 =>
              refine step_val (v := (.slice (some ⟨b, off, none⟩) (len l) cap)) (fun av wv hE hS hO hD => ?_) (fun _ => rfl)
              have h0 : av.eval (.tmp 0) = (.slice (some ⟨b, off, none⟩) (len l) cap) := hO.2.2 0 rfl
              have f0 := (ev_form av 0).symm.trans h0
              have d34 : av.eval (.tmp 34) = (.bool false) := hD.1 rfl _ rfl
              have f34 := (ev_form av 34).symm.trans d34
              refine ⟨(wanted_of (d := 34) (b := false) (want := false) rfl rfl rfl d34), ?_⟩
              simp [go_sem, f0, f34, i1, i2, i3, i4, i5, i6, hy]
            case s20 =>
              refine step_val (v := (.int .i64 (m : Nat))) (fun av wv hE hS hO hD => ?_) (fun _ => rfl)
              have h5 : av.eval (.tmp 5) = (.int .i64 (m : Nat)) := hO.2.2 5 rfl
              have f5 := (ev_form av 5).symm.trans h5
              have d34 : av.eval (.tmp 34) = (.bool false) := hD.1 rfl _ rfl
              have f34 := (ev_form av 34).symm.trans d34
              refine ⟨(wanted_of (d := 34) (b := false) (want := false) rfl rfl rfl d34), ?_⟩
              simp [go_sem, f5, f34, i1, i2, i3, i4, i5, i6, hy]
            case s21 =>
              refine step_val (v := (.int .i64 (k : Nat))) (fun av wv hE hS hO hD => ?_) (fun _ => rfl)
              have d42 : av.eval (.tmp 42) = (.int .i64 (m : Nat)) := hD.1 rfl _ rfl
              have f42 := (ev_form av 42).symm.trans d42
              have d34 : av.eval (.tmp 34) = (.bool false) := hD.2.1 rfl _ rfl
              have f34 := (ev_form av 34).symm.trans d34
              refine ⟨(wanted_of (d := 34) (b := false) (want := false) rfl rfl rfl d34), ?_⟩
              simp [go_sem, f42, f34, i1, i2, i3, i4, i5, i6, hy]
            case s22 =>
              refine step_val (v := (.pointer (some ⟨b, off + k * 4, none⟩))) (fun av wv hE hS hO hD => ?_) (fun _ => rfl)
              have d41 : av.eval (.tmp 41) = (.slice (some ⟨b, off, none⟩) (len l) cap) := hD.1 rfl _ rfl
              have f41 := (ev_form av 41).symm.trans d41
              have d43 : av.eval (.tmp 43) = (.int .i64 (k : Nat)) := hD.2.1 rfl _ rfl
              have f43 := (ev_form av 43).symm.trans d43
              have d34 : av.eval (.tmp 34) = (.bool false) := hD.2.2.1 rfl _ rfl
              have f34 := (ev_form av 34).symm.trans d34
              refine ⟨(wanted_of (d := 34) (b := false) (want := false) rfl rfl rfl d34), ?_⟩
              simp [go_sem, f41, f43, f34, i1, i2, i3, i4, i5, i6, hy]
            case s23 =>
              refine step_val (v := (.pointer (some ⟨b, off + k * 4, none⟩))) (fun av wv hE hS hO hD => ?_) (fun _ => rfl)
              have d44 : av.eval (.tmp 44) = (.pointer (some ⟨b, off + k * 4, none⟩)) := hD.1 rfl _ rfl
              have f44 := (ev_form av 44).symm.trans d44
              have d34 : av.eval (.tmp 34) = (.bool false) := hD.2.1 rfl _ rfl
              have f34 := (ev_form av 34).symm.trans d34
              refine ⟨(wanted_of (d := 34) (b := false) (want := false) rfl rfl rfl d34), ?_⟩
              simp [go_sem, f44, f34, i1, i2, i3, i4, i5, i6, hy]
            case s24 =>
              refine step_val (v := (.int .u64 q)) (fun av wv hE hS hO hD => ?_) (fun _ => rfl)
              have d45 : av.eval (.tmp 45) = (.pointer (some ⟨b, off + k * 4, none⟩)) := hD.1 rfl _ rfl
              have f45 := (ev_form av 45).symm.trans d45
              have d34 : av.eval (.tmp 34) = (.bool false) := hD.2.1 rfl _ rfl
              have f34 := (ev_form av 34).symm.trans d34
              have cr := extB_cell hE (by simp) cr
              have cq := extB_cell hE (by simp) cq
              refine ⟨(wanted_of (d := 34) (b := false) (want := false) rfl rfl rfl d34), ?_⟩
              simp [go_sem, f45, f34, cr, cq, i1, i2, i3, i4, i5, i6, hy]
            case s25 =>
              refine step_val (v := (.bool (!y))) (fun av wv hE hS hO hD => ?_) (fun _ => rfl)
              have d40 : av.eval (.tmp 40) = (.int .u64 (rr - 1)) := hD.1 rfl _ rfl
              have f40 := (ev_form av 40).symm.trans d40
              have d46 : av.eval (.tmp 46) = (.int .u64 q) := hD.2.1 rfl _ rfl
              have f46 := (ev_form av 46).symm.trans d46
              have d34 : av.eval (.tmp 34) = (.bool false) := hD.2.2.1 rfl _ rfl
              have f34 := (ev_form av 34).symm.trans d34
              refine ⟨(wanted_of (d := 34) (b := false) (want := false) rfl rfl rfl d34), ?_⟩
              simp [go_sem, f40, f46, f34, i1, i2, i3, i4, i5, i6, hy]
            case s26 =>
              refine step_val (v := (.bool (!y))) (fun av wv hE hS hO hD => ?_) (fun _ => rfl)
              have d34 : av.eval (.tmp 34) = (.bool false) := hD.1 rfl _ rfl
              have f34 := (ev_form av 34).symm.trans d34
              have d47 : av.eval (.tmp 47) = (.bool (!y)) := hD.2.1 rfl _ rfl
              have f47 := (ev_form av 47).symm.trans d47
              have d27 : av.eval (.tmp 27) = (.bool true) := hD.2.2.1 rfl _ rfl
              have f27 := (ev_form av 27).symm.trans d27
              refine ⟨(wanted_of (d := 27) (b := true) (want := true) rfl rfl rfl d27), ?_⟩
              simp [go_sem, f34, f47, f27, i1, i2, i3, i4, i5, i6, hy]
            case s27 =>
              refine step_val (v := (.bool (!y))) (fun av wv hE hS hO hD => ?_) (fun _ => rfl)
              have d27 : av.eval (.tmp 27) = (.bool true) := hD.1 rfl _ rfl
              have f27 := (ev_form av 27).symm.trans d27
              have d48 : av.eval (.tmp 48) = (.bool (!y)) := hD.2.1 rfl _ rfl
              have f48 := (ev_form av 48).symm.trans d48
              have d24 : av.eval (.tmp 24) = (.bool false) := hD.2.2.1 rfl _ rfl
              have f24 := (ev_form av 24).symm.trans d24
              refine ⟨(wanted_of (d := 24) (b := false) (want := false) rfl rfl rfl d24), ?_⟩
              simp [go_sem, f27, f48, f24, i1, i2, i3, i4, i5, i6, hy]
            case s28 =>
              refine step_val (v := (.bool (!y))) (fun av wv hE hS hO hD => ?_) (fun _ => rfl)
              have d24 : av.eval (.tmp 24) = (.bool false) := hD.1 rfl _ rfl
              have f24 := (ev_form av 24).symm.trans d24
              have d49 : av.eval (.tmp 49) = (.bool (!y)) := hD.2.1 rfl _ rfl
              have f49 := (ev_form av 49).symm.trans d49
              refine ⟨rfl, ?_⟩
              simp [go_sem, f24, f49, i1, i2, i3, i4, i5, i6, hy]
            intro a' w' hE hO hall
            have hA := act_of_outer (ds := [22, 23, 24, 25, 26, 27, 28, 29, 30, 31, 32, 33, 34, 35, 36, 37, 38, 39, 40, 41, 42, 43, 44, 45, 46, 47, 48, 49, 50]) rfl hO (by kernel_rfl)
            have e22 : (fun u _ => u = (.int .i64 0)) (a'.eval (.tmp 22)) w' := hall.1 _ rfl
            have e23 : (fun u _ => u = (.bool false)) (a'.eval (.tmp 23)) w' := hall.2.1 _ rfl
            have e24 : (fun u _ => u = (.bool false)) (a'.eval (.tmp 24)) w' := hall.2.2.1 _ rfl
            have e25 : (fun u _ => u = (.int .i64 (m : Nat))) (a'.eval (.tmp 25)) w' := hall.2.2.2.1 _ rfl
            have e26 : (fun u _ => u = (.bool true)) (a'.eval (.tmp 26)) w' := hall.2.2.2.2.1 _ rfl
            have e27 : (fun u _ => u = (.bool true)) (a'.eval (.tmp 27)) w' := hall.2.2.2.2.2.1 _ rfl
            have e28 : (fun u _ => u = (.slice (some ⟨b, off, none⟩) (len l) cap)) (a'.eval (.tmp 28)) w' := hall.2.2.2.2.2.2.1 _ rfl
            have e29 : (fun u _ => u = (.int .i64 (m : Nat))) (a'.eval (.tmp 29)) w' := hall.2.2.2.2.2.2.2.1 _ rfl
            have e30 : (fun u _ => u = (.pointer (some ⟨b, off + m * 4, none⟩))) (a'.eval (.tmp 30)) w' := hall.2.2.2.2.2.2.2.2.1 _ rfl
            have e31 : (fun u _ => u = (.pointer (some ⟨b, off + m * 4, none⟩))) (a'.eval (.tmp 31)) w' := hall.2.2.2.2.2.2.2.2.2.1 _ rfl
            have e32 : (fun u _ => u = (.int .u64 rr)) (a'.eval (.tmp 32)) w' := hall.2.2.2.2.2.2.2.2.2.2.1 _ rfl
            have e33 : (fun u _ => u = (.bool false)) (a'.eval (.tmp 33)) w' := hall.2.2.2.2.2.2.2.2.2.2.2.1 _ rfl
            have e34 : (fun u _ => u = (.bool false)) (a'.eval (.tmp 34)) w' := hall.2.2.2.2.2.2.2.2.2.2.2.2.1 _ rfl
            have e35 : (fun u _ => u = (.slice (some ⟨b, off, none⟩) (len l) cap)) (a'.eval (.tmp 35)) w' := hall.2.2.2.2.2.2.2.2.2.2.2.2.2.1 _ rfl
            have e36 : (fun u _ => u = (.int .i64 (m : Nat))) (a'.eval (.tmp 36)) w' := hall.2.2.2.2.2.2.2.2.2.2.2.2.2.2.1 _ rfl
            have e37 : (fun u _ => u = (.pointer (some ⟨b, off + m * 4, none⟩))) (a'.eval (.tmp 37)) w' := hall.2.2.2.2.2.2.2.2.2.2.2.2.2.2.2.1 _ rfl
            have e38 : (fun u _ => u = (.pointer (some ⟨b, off + m * 4, none⟩))) (a'.eval (.tmp 38)) w' := hall.2.2.2.2.2.2.2.2.2.2.2.2.2.2.2.2.1 _ rfl
            have e39 : (fun u _ => u = (.int .u64 rr)) (a'.eval (.tmp 39)) w' := hall.2.2.2.2.2.2.2.2.2.2.2.2.2.2.2.2.2.1 _ rfl
            have e40 : (fun u _ => u = (.int .u64 (rr - 1))) (a'.eval (.tmp 40)) w' := hall.2.2.2.2.2.2.2.2.2.2.2.2.2.2.2.2.2.2.1 _ rfl
            have e41 : (fun u _ => u = (.slice (some ⟨b, off, none⟩) (len l) cap)) (a'.eval (.tmp 41)) w' := hall.2.2.2.2.2.2.2.2.2.2.2.2.2.2.2.2.2.2.2.1 _ rfl
            have e42 : (fun u _ => u = (.int .i64 (m : Nat))) (a'.eval (.tmp 42)) w' := hall.2.2.2.2.2.2.2.2.2.2.2.2.2.2.2.2.2.2.2.2.1 _ rfl
            have e43 : (fun u _ => u = (.int .i64 (k : Nat))) (a'.eval (.tmp 43)) w' := hall.2.2.2.2.2.2.2.2.2.2.2.2.2.2.2.2.2.2.2.2.2.1 _ rfl
            have e44 : (fun u _ => u = (.pointer (some ⟨b, off + k * 4, none⟩))) (a'.eval (.tmp 44)) w' := hall.2.2.2.2.2.2.2.2.2.2.2.2.2.2.2.2.2.2.2.2.2.2.1 _ rfl
            have e45 : (fun u _ => u = (.pointer (some ⟨b, off + k * 4, none⟩))) (a'.eval (.tmp 45)) w' := hall.2.2.2.2.2.2.2.2.2.2.2.2.2.2.2.2.2.2.2.2.2.2.2.1 _ rfl
            have e46 : (fun u _ => u = (.int .u64 q)) (a'.eval (.tmp 46)) w' := hall.2.2.2.2.2.2.2.2.2.2.2.2.2.2.2.2.2.2.2.2.2.2.2.2.1 _ rfl
            have e47 : (fun u _ => u = (.bool (!y))) (a'.eval (.tmp 47)) w' := hall.2.2.2.2.2.2.2.2.2.2.2.2.2.2.2.2.2.2.2.2.2.2.2.2.2.1 _ rfl
            have e48 : (fun u _ => u = (.bool (!y))) (a'.eval (.tmp 48)) w' := hall.2.2.2.2.2.2.2.2.2.2.2.2.2.2.2.2.2.2.2.2.2.2.2.2.2.2.1 _ rfl
            have e49 : (fun u _ => u = (.bool (!y))) (a'.eval (.tmp 49)) w' := hall.2.2.2.2.2.2.2.2.2.2.2.2.2.2.2.2.2.2.2.2.2.2.2.2.2.2.2.1 _ rfl
            have e50 : (fun u _ => u = (.bool (!y))) (a'.eval (.tmp 50)) w' := hall.2.2.2.2.2.2.2.2.2.2.2.2.2.2.2.2.2.2.2.2.2.2.2.2.2.2.2.2.1 _ rfl
            simp only [List.foldl_cons, List.foldl_nil, Act.put, List.setIfInBounds_toArray, List.set_cons_succ, List.set_cons_zero, e22, e23, e24, e25, e26, e27, e28, e29, e30, e31, e32, e33, e34, e35, e36, e37, e38, e39, e40, e41, e42, e43, e44, e45, e46, e47, e48, e49, e50] at hA
            clear hO hall e22 e23 e24 e25 e26 e27 e28 e29 e30 e31 e32 e33 e34 e35 e36 e37 e38 e39 e40 e41 e42 e43 e44 e45 e46 e47 e48 e49 e50
            subst hA
            have HB2 : Hid (Below w.heap.size w w') := Lib.hid (bnext HB1.out (of_drew hE))
            have HO2 := Lib.hid (own_below HOWN.out (of_drew hE))
            clear hE i1 i3 i4 i5 i6 cr cq hy
            cases y
            · have HNO : Hid (elOk l = false) := Lib.hid (step_no (m := k) (by rw [HMK.out]; exact HLT.out) (by rw [HMK.out, HGE.out, HRE.out, HST.out, HRR.out, HQQ.out, HY.out]; simp))
              go_wp2
              go_ret2
              exact ⟨.slice none 0 0, by rw [HNO.out]; rfl, fun h => absurd h (by rw [HNO.out]; decide), HB2.out⟩
            · have HYS : Hid (stepH (hnth l k) (hnth l m) = true) := Lib.hid (by rw [HGE.out, HRE.out, HST.out, HRR.out, HQQ.out, HY.out]; simp; exact HZZ.out)
              go_wp2_with (at_builtin; refine wpList_append_own _ rfl _ _ 36 rfl w.heap.size 9 i0 (.string ⟨#[]⟩) 1 16 Tryz.underlying36 hi HZ.out hz1 hz2 rfl (by decide) _ _ _ rfl (HO2.out.alloc _) ⟨w'.heap.size, 0, none⟩ 1 1 [.string (hbs r)] rfl rfl ?c1 ?c2 ?c3 ?c4 ?c5 ?_)
              case c1 => exact World.news_of_block (alloc_new_at _ rfl)
              case c2 => intro u hu; simp at hu; subst hu; rfl
              case c3 => unfold maxLen; have := HN.out; have := lenT l m (by omega); omega
              case c4 => have := lenT l m (by omega); omega
              case c5 => have := HB2.out.size; simp; omega
              intro v' w2 hown' hgrow _
              have HB3 : Hid (Below w.heap.size w w2) := Lib.hid (grownBy_below (balloc HB2.out _) hgrow (fun k hk => (HO2.out.lt k hk).1))
              have HO3 : Hid (w2.ownsRow w.heap.size 9 1 v' (len (elL (l.take (m + 1)))) ((elL (l.take (m + 1))).map Value.string)) := Lib.hid (by
                rw [elL_snoc l m HLT.out, HRE.out, List.map_append, len_appT, show len [hbs r] = 1 from rfl]; exact hown')
              clear hown' hgrow
              go_wp2
              go_roundg (gk - 1)
              case rel => exact ⟨m + 1, by omega, by go_num, Lib.hid ⟨HB3.out, HO3.out, fun j hj => by
                by_cases e : j = m
                · subst e; rw [HRE.out]; exact HOK.out
                · exact HS.out.y j (by omega), fun j h0 hj => by
                by_cases e : j = m
                · (subst e; rw [show j - 1 = k by have := HMK.out; omega]; exact HYS.out)
                · exact HS.out.s j h0 (by omega)⟩⟩
              case measure => omega
      · have hok : hOk r = false := by simpa using hok
        have HE : Hid (elOk l = false) := Lib.hid (lay_no hlt (by rw [HRE.out]; exact hok))
        go_wp2_with fail
        refine (HRN.out _ hok).mono ?_
        rintro e w1 ⟨rfl, hb⟩
        have HB1 : Hid (Below w.heap.size w w1) := Lib.hid (bnext HB.out hb)
        clear e0 e1 e2 e3 hb hok
        go_upto_region 6 with fail
        refine wp_region_all 1000 (none) (phis [fun u _ => u = (.int .i64 2), fun u _ => u = (.bool true), fun u _ => u = (.bool true), fun u _ => u = undef, fun u _ => u = undef, fun u _ => u = undef, fun u _ => u = undef, fun u _ => u = undef, fun u _ => u = undef, fun u _ => u = undef, fun u _ => u = undef, fun u _ => u = undef, fun u _ => u = undef, fun u _ => u = undef, fun u _ => u = undef, fun u _ => u = undef, fun u _ => u = undef, fun u _ => u = undef, fun u _ => u = undef, fun u _ => u = undef, fun u _ => u = undef, fun u _ => u = undef, fun u _ => u = undef, fun u _ => u = undef, fun u _ => u = undef, fun u _ => u = undef, fun u _ => u = undef, fun u _ => u = undef, fun u _ => u = (.bool true)]) rfl (by kernel_rfl) (mono_of ⟨mono_eq, mono_eq, mono_eq, mono_eq, mono_eq, mono_eq, mono_eq, mono_eq, mono_eq, mono_eq, mono_eq, mono_eq, mono_eq, mono_eq, mono_eq, mono_eq, mono_eq, mono_eq, mono_eq, mono_eq, mono_eq, mono_eq, mono_eq, mono_eq, mono_eq, mono_eq, mono_eq, mono_eq, mono_eq, trivial⟩) (steps_of 29 ⟨?s0, ?s1, ?s2, ?s3, ?s4, ?s5, ?s6, ?s7, ?s8, ?s9, ?s10, ?s11, ?s12, ?s13, ?s14, ?s15, ?s16, ?s17, ?s18, ?s19, ?s20, ?s21, ?s22, ?s23, ?s24, ?s25, ?s26, ?s27, ?s28, trivial⟩) ?_
        case s0 =>
          refine step_val (v := (.int .i64 2)) (fun av wv hE hS hO hD => ?_) (fun _ => rfl)
          have h7 : av.eval (.tmp 7) = (.int .i64 2) := hO.2.2 7 rfl
          have f7 := (ev_form av 7).symm.trans h7
          refine ⟨rfl, ?_⟩
          simp [go_sem, f7]
        case s1 =>
          refine step_val (v := (.bool true)) (fun av wv hE hS hO hD => ?_) (fun _ => rfl)
          have d22 : av.eval (.tmp 22) = (.int .i64 2) := hD.1 rfl _ rfl
          have f22 := (ev_form av 22).symm.trans d22
          refine ⟨rfl, ?_⟩
          simp [go_sem, f22]
        case s2 =>
          refine step_val (v := (.bool true)) (fun av wv hE hS hO hD => ?_) (fun _ => rfl)
          have d23 : av.eval (.tmp 23) = (.bool true) := hD.1 rfl _ rfl
          have f23 := (ev_form av 23).symm.trans d23
          refine ⟨rfl, ?_⟩
          simp [go_sem, f23]
        case s3 =>
          refine step_skip (fun av wv hE hS hO hD => ?_) (fun _ => rfl)
          have h5 : av.eval (.tmp 5) = (.int .i64 (m : Nat)) := hO.2.2 5 rfl
          have f5 := (ev_form av 5).symm.trans h5
          have d24 : av.eval (.tmp 24) = (.bool true) := hD.1 rfl _ rfl
          have f24 := (ev_form av 24).symm.trans d24
          exact (wanted_of (d := 24) (b := true) (want := false) rfl rfl rfl d24)
        case s4 =>
          refine step_skip (fun av wv hE hS hO hD => ?_) (fun _ => rfl)
          have d25 : av.eval (.tmp 25) = (undef) := hD.1 rfl _ rfl
          have f25 := (ev_form av 25).symm.trans d25
          have d24 : av.eval (.tmp 24) = (.bool true) := hD.2.1 rfl _ rfl
          have f24 := (ev_form av 24).symm.trans d24
          exact (wanted_of (d := 24) (b := true) (want := false) rfl rfl rfl d24)
        case s5 =>
          refine step_skip (fun av wv hE hS hO hD => ?_) (fun _ => rfl)
          have d26 : av.eval (.tmp 26) = (undef) := hD.1 rfl _ rfl
          have f26 := (ev_form av 26).symm.trans d26
          have d24 : av.eval (.tmp 24) = (.bool true) := hD.2.1 rfl _ rfl
          have f24 := (ev_form av 24).symm.trans d24
          exact (wanted_of (d := 24) (b := true) (want := false) rfl rfl rfl d24)
        case s6 =>
          refine step_skip (fun av wv hE hS hO hD => ?_) (fun _ => rfl)
          have h0 : av.eval (.tmp 0) = (.slice (some ⟨b, off, none⟩) (len l) cap) := hO.2.2 0 rfl
          have f0 := (ev_form av 0).symm.trans h0
          have d27 : av.eval (.tmp 27) = (undef) := hD.1 rfl _ rfl
          have f27 := (ev_form av 27).symm.trans d27
          exact (wanted_undef (d := 27) (want := true) rfl rfl rfl d27)
        case s7 =>
          refine step_skip (fun av wv hE hS hO hD => ?_) (fun _ => rfl)
          have h5 : av.eval (.tmp 5) = (.int .i64 (m : Nat)) := hO.2.2 5 rfl
          have f5 := (ev_form av 5).symm.trans h5
          have d27 : av.eval (.tmp 27) = (undef) := hD.1 rfl _ rfl
          have f27 := (ev_form av 27).symm.trans d27
          exact (wanted_undef (d := 27) (want := true) rfl rfl rfl d27)
        case s8 =>
          refine step_skip (fun av wv hE hS hO hD => ?_) (fun _ => rfl)
          have d28 : av.eval (.tmp 28) = (undef) := hD.1 rfl _ rfl
          have f28 := (ev_form av 28).symm.trans d28
          have d29 : av.eval (.tmp 29) = (undef) := hD.2.1 rfl _ rfl
          have f29 := (ev_form av 29).symm.trans d29
          have d27 : av.eval (.tmp 27) = (undef) := hD.2.2.1 rfl _ rfl
          have f27 := (ev_form av 27).symm.trans d27
          exact (wanted_undef (d := 27) (want := true) rfl rfl rfl d27)
        case s9 =>
          refine step_skip (fun av wv hE hS hO hD => ?_) (fun _ => rfl)
          have d30 : av.eval (.tmp 30) = (undef) := hD.1 rfl _ rfl
          have f30 := (ev_form av 30).symm.trans d30
          have d27 : av.eval (.tmp 27) = (undef) := hD.2.1 rfl _ rfl
          have f27 := (ev_form av 27).symm.trans d27
          exact (wanted_undef (d := 27) (want := true) rfl rfl rfl d27)
        case s10 =>
          refine step_skip (fun av wv hE hS hO hD => ?_) (fun _ => rfl)
          have d31 : av.eval (.tmp 31) = (undef) := hD.1 rfl _ rfl
          have f31 := (ev_form av 31).symm.trans d31
          have d27 : av.eval (.tmp 27) = (undef) := hD.2.1 rfl _ rfl
          have f27 := (ev_form av 27).symm.trans d27
          exact (wanted_undef (d := 27) (want := true) rfl rfl rfl d27)
        case s11 =>
          refine step_skip (fun av wv hE hS hO hD => ?_) (fun _ => rfl)
          have d32 : av.eval (.tmp 32) = (undef) := hD.1 rfl _ rfl
          have f32 := (ev_form av 32).symm.trans d32
          have d27 : av.eval (.tmp 27) = (undef) := hD.2.1 rfl _ rfl
          have f27 := (ev_form av 27).symm.trans d27
          exact (wanted_undef (d := 27) (want := true) rfl rfl rfl d27)
        case s12 =>
          refine step_skip (fun av wv hE hS hO hD => ?_) (fun _ => rfl)
          have d33 : av.eval (.tmp 33) = (undef) := hD.1 rfl _ rfl
          have f33 := (ev_form av 33).symm.trans d33
          have d27 : av.eval (.tmp 27) = (undef) := hD.2.1 rfl _ rfl
          have f27 := (ev_form av 27).symm.trans d27
          exact (wanted_undef (d := 27) (want := true) rfl rfl rfl d27)
        case s13 =>
          refine step_skip (fun av wv hE hS hO hD => ?_) (fun _ => rfl)
          have h0 : av.eval (.tmp 0) = (.slice (some ⟨b, off, none⟩) (len l) cap) := hO.2.2 0 rfl
          have f0 := (ev_form av 0).symm.trans h0
          have d34 : av.eval (.tmp 34) = (undef) := hD.1 rfl _ rfl
          have f34 := (ev_form av 34).symm.trans d34
          exact (wanted_undef (d := 34) (want := false) rfl rfl rfl d34)
        case s14 =>
          refine step_skip (fun av wv hE hS hO hD => ?_) (fun _ => rfl)
          have h5 : av.eval (.tmp 5) = (.int .i64 (m : Nat)) := hO.2.2 5 rfl
          have f5 := (ev_form av 5).symm.trans h5
          have d34 : av.eval (.tmp 34) = (undef) := hD.1 rfl _ rfl
          have f34 := (ev_form av 34).symm.trans d34
          exact (wanted_undef (d := 34) (want := false) rfl rfl rfl d34)
        case s15 =>
          refine step_skip (fun av wv hE hS hO hD => ?_) (fun _ => rfl)
          have d35 : av.eval (.tmp 35) = (undef) := hD.1 rfl _ rfl
          have f35 := (ev_form av 35).symm.trans d35
          have d36 : av.eval (.tmp 36) = (undef) := hD.2.1 rfl _ rfl
          have f36 := (ev_form av 36).symm.trans d36
          have d34 : av.eval (.tmp 34) = (undef) := hD.2.2.1 rfl _ rfl
          have f34 := (ev_form av 34).symm.trans d34
          exact (wanted_undef (d := 34) (want := false) rfl rfl rfl d34)
        case s16 =>
          refine step_skip (fun av wv hE hS hO hD => ?_) (fun _ => rfl)
          have d37 : av.eval (.tmp 37) = (undef) := hD.1 rfl _ rfl
          have f37 := (ev_form av 37).symm.trans d37
          have d34 : av.eval (.tmp 34) = (undef) := hD.2.1 rfl _ rfl
          have f34 := (ev_form av 34).symm.trans d34
          exact (wanted_undef (d := 34) (want := false) rfl rfl rfl d34)
        case s17 =>
          refine step_skip (fun av wv hE hS hO hD => ?_) (fun _ => rfl)
          have d38 : av.eval (.tmp 38) = (undef) := hD.1 rfl _ rfl
          have f38 := (ev_form av 38).symm.trans d38
          have d34 : av.eval (.tmp 34) = (undef) := hD.2.1 rfl _ rfl
          have f34 := (ev_form av 34).symm.trans d34
          exact (wanted_undef (d := 34) (want := false) rfl rfl rfl d34)
        case s18 =>
          refine step_skip (fun av wv hE hS hO hD => ?_) (fun _ => rfl)
          have d39 : av.eval (.tmp 39) = (undef) := hD.1 rfl _ rfl
          have f39 := (ev_form av 39).symm.trans d39
          have d34 : av.eval (.tmp 34) = (undef) := hD.2.1 rfl _ rfl
          have f34 := (ev_form av 34).symm.trans d34
          exact (wanted_undef (d := 34) (want := false) rfl rfl rfl d34)
        case s19 =>
          refine step_skip (fun av wv hE hS hO hD => ?_) (fun _ => rfl)
          have h0 : av.eval (.tmp 0) = (.slice (some ⟨b, off, none⟩) (len l) cap) := hO.2.2 0 rfl
          have f0 := (ev_form av 0).symm.trans h0
          have d34 : av.eval (.tmp 34) = (undef) := hD.1 rfl _ rfl
          have f34 := (ev_form av 34).symm.trans d34
          exact (wanted_undef (d := 34) (want := false) rfl rfl rfl d34)
        case s20 =>
          refine step_skip (fun av wv hE hS hO hD => ?_) (fun _ => rfl)
          have h5 : av.eval (.tmp 5) = (.int .i64 (m : Nat)) := hO.2.2 5 rfl
          have f5 := (ev_form av 5).symm.trans h5
          have d34 : av.eval (.tmp 34) = (undef) := hD.1 rfl _ rfl
          have f34 := (ev_form av 34).symm.trans d34
          exact (wanted_undef (d := 34) (want := false) rfl rfl rfl d34)
        case s21 =>
          refine step_skip (fun av wv hE hS hO hD => ?_) (fun _ => rfl)
          have d42 : av.eval (.tmp 42) = (undef) := hD.1 rfl _ rfl
          have f42 := (ev_form av 42).symm.trans d42
          have d34 : av.eval (.tmp 34) = (undef) := hD.2.1 rfl _ rfl
          have f34 := (ev_form av 34).symm.trans d34
          exact (wanted_undef (d := 34) (want := false) rfl rfl rfl d34)
        case s22 =>
          refine step_skip (fun av wv hE hS hO hD => ?_) (fun _ => rfl)
          have d41 : av.eval (.tmp 41) = (undef) := hD.1 rfl _ rfl
          have f41 := (ev_form av 41).symm.trans d41
          have d43 : av.eval (.tmp 43) = (undef) := hD.2.1 rfl _ rfl
          have f43 := (ev_form av 43).symm.trans d43
          have d34 : av.eval (.tmp 34) = (undef) := hD.2.2.1 rfl _ rfl
          have f34 := (ev_form av 34).symm.trans d34
          exact (wanted_undef (d := 34) (want := false) rfl rfl rfl d34)
        case s23 =>
          refine step_skip (fun av wv hE hS hO hD => ?_) (fun _ => rfl)
          have d44 : av.eval (.tmp 44) = (undef) := hD.1 rfl _ rfl
          have f44 := (ev_form av 44).symm.trans d44
          have d34 : av.eval (.tmp 34) = (undef) := hD.2.1 rfl _ rfl
          have f34 := (ev_form av 34).symm.trans d34
          exact (wanted_undef (d := 34) (want := false) rfl rfl rfl d34)
        case s24 =>
          refine step_skip (fun av wv hE hS hO hD => ?_) (fun _ => rfl)
          have d45 : av.eval (.tmp 45) = (undef) := hD.1 rfl _ rfl
          have f45 := (ev_form av 45).symm.trans d45
          have d34 : av.eval (.tmp 34) = (undef) := hD.2.1 rfl _ rfl
          have f34 := (ev_form av 34).symm.trans d34
          exact (wanted_undef (d := 34) (want := false) rfl rfl rfl d34)
        case s25 =>
          refine step_skip (fun av wv hE hS hO hD => ?_) (fun _ => rfl)
          have d40 : av.eval (.tmp 40) = (undef) := hD.1 rfl _ rfl
          have f40 := (ev_form av 40).symm.trans d40
          have d46 : av.eval (.tmp 46) = (undef) := hD.2.1 rfl _ rfl
          have f46 := (ev_form av 46).symm.trans d46
          have d34 : av.eval (.tmp 34) = (undef) := hD.2.2.1 rfl _ rfl
          have f34 := (ev_form av 34).symm.trans d34
          exact (wanted_undef (d := 34) (want := false) rfl rfl rfl d34)
        case s26 =>
          refine step_skip (fun av wv hE hS hO hD => ?_) (fun _ => rfl)
          have d34 : av.eval (.tmp 34) = (undef) := hD.1 rfl _ rfl
          have f34 := (ev_form av 34).symm.trans d34
          have d47 : av.eval (.tmp 47) = (undef) := hD.2.1 rfl _ rfl
          have f47 := (ev_form av 47).symm.trans d47
          have d27 : av.eval (.tmp 27) = (undef) := hD.2.2.1 rfl _ rfl
          have f27 := (ev_form av 27).symm.trans d27
          exact (wanted_undef (d := 27) (want := true) rfl rfl rfl d27)
        case s27 =>
          refine step_skip (fun av wv hE hS hO hD => ?_) (fun _ => rfl)
          have d27 : av.eval (.tmp 27) = (undef) := hD.1 rfl _ rfl
          have f27 := (ev_form av 27).symm.trans d27
          have d48 : av.eval (.tmp 48) = (undef) := hD.2.1 rfl _ rfl
          have f48 := (ev_form av 48).symm.trans d48
          have d24 : av.eval (.tmp 24) = (.bool true) := hD.2.2.1 rfl _ rfl
          have f24 := (ev_form av 24).symm.trans d24
          exact (wanted_of (d := 24) (b := true) (want := false) rfl rfl rfl d24)
        case s28 =>
          refine step_val (v := (.bool true)) (fun av wv hE hS hO hD => ?_) (fun _ => rfl)
          have d24 : av.eval (.tmp 24) = (.bool true) := hD.1 rfl _ rfl
          have f24 := (ev_form av 24).symm.trans d24
          have d49 : av.eval (.tmp 49) = (undef) := hD.2.1 rfl _ rfl
          have f49 := (ev_form av 49).symm.trans d49
          refine ⟨rfl, ?_⟩
          simp [go_sem, f24, f49]
        intro a' w' hE hO hall
        have hA := act_of_outer (ds := [22, 23, 24, 25, 26, 27, 28, 29, 30, 31, 32, 33, 34, 35, 36, 37, 38, 39, 40, 41, 42, 43, 44, 45, 46, 47, 48, 49, 50]) rfl hO (by kernel_rfl)
        have e22 : (fun u _ => u = (.int .i64 2)) (a'.eval (.tmp 22)) w' := hall.1 _ rfl
        have e23 : (fun u _ => u = (.bool true)) (a'.eval (.tmp 23)) w' := hall.2.1 _ rfl
        have e24 : (fun u _ => u = (.bool true)) (a'.eval (.tmp 24)) w' := hall.2.2.1 _ rfl
        have e25 : (fun u _ => u = undef) (a'.eval (.tmp 25)) w' := hall.2.2.2.1 _ rfl
        have e26 : (fun u _ => u = undef) (a'.eval (.tmp 26)) w' := hall.2.2.2.2.1 _ rfl
        have e27 : (fun u _ => u = undef) (a'.eval (.tmp 27)) w' := hall.2.2.2.2.2.1 _ rfl
        have e28 : (fun u _ => u = undef) (a'.eval (.tmp 28)) w' := hall.2.2.2.2.2.2.1 _ rfl
        have e29 : (fun u _ => u = undef) (a'.eval (.tmp 29)) w' := hall.2.2.2.2.2.2.2.1 _ rfl
        have e30 : (fun u _ => u = undef) (a'.eval (.tmp 30)) w' := hall.2.2.2.2.2.2.2.2.1 _ rfl
        have e31 : (fun u _ => u = undef) (a'.eval (.tmp 31)) w' := hall.2.2.2.2.2.2.2.2.2.1 _ rfl
        have e32 : (fun u _ => u = undef) (a'.eval (.tmp 32)) w' := hall.2.2.2.2.2.2.2.2.2.2.1 _ rfl
        have e33 : (fun u _ => u = undef) (a'.eval (.tmp 33)) w' := hall.2.2.2.2.2.2.2.2.2.2.2.1 _ rfl
        have e34 : (fun u _ => u = undef) (a'.eval (.tmp 34)) w' := hall.2.2.2.2.2.2.2.2.2.2.2.2.1 _ rfl
        have e35 : (fun u _ => u = undef) (a'.eval (.tmp 35)) w' := hall.2.2.2.2.2.2.2.2.2.2.2.2.2.1 _ rfl
        have e36 : (fun u _ => u = undef) (a'.eval (.tmp 36)) w' := hall.2.2.2.2.2.2.2.2.2.2.2.2.2.2.1 _ rfl
        have e37 : (fun u _ => u = undef) (a'.eval (.tmp 37)) w' := hall.2.2.2.2.2.2.2.2.2.2.2.2.2.2.2.1 _ rfl
        have e38 : (fun u _ => u = undef) (a'.eval (.tmp 38)) w' := hall.2.2.2.2.2.2.2.2.2.2.2.2.2.2.2.2.1 _ rfl
        have e39 : (fun u _ => u = undef) (a'.eval (.tmp 39)) w' := hall.2.2.2.2.2.2.2.2.2.2.2.2.2.2.2.2.2.1 _ rfl
        have e40 : (fun u _ => u = undef) (a'.eval (.tmp 40)) w' := hall.2.2.2.2.2.2.2.2.2.2.2.2.2.2.2.2.2.2.1 _ rfl
        have e41 : (fun u _ => u = undef) (a'.eval (.tmp 41)) w' := hall.2.2.2.2.2.2.2.2.2.2.2.2.2.2.2.2.2.2.2.1 _ rfl
        have e42 : (fun u _ => u = undef) (a'.eval (.tmp 42)) w' := hall.2.2.2.2.2.2.2.2.2.2.2.2.2.2.2.2.2.2.2.2.1 _ rfl
        have e43 : (fun u _ => u = undef) (a'.eval (.tmp 43)) w' := hall.2.2.2.2.2.2.2.2.2.2.2.2.2.2.2.2.2.2.2.2.2.1 _ rfl
        have e44 : (fun u _ => u = undef) (a'.eval (.tmp 44)) w' := hall.2.2.2.2.2.2.2.2.2.2.2.2.2.2.2.2.2.2.2.2.2.2.1 _ rfl
        have e45 : (fun u _ => u = undef) (a'.eval (.tmp 45)) w' := hall.2.2.2.2.2.2.2.2.2.2.2.2.2.2.2.2.2.2.2.2.2.2.2.1 _ rfl
        have e46 : (fun u _ => u = undef) (a'.eval (.tmp 46)) w' := hall.2.2.2.2.2.2.2.2.2.2.2.2.2.2.2.2.2.2.2.2.2.2.2.2.1 _ rfl
        have e47 : (fun u _ => u = undef) (a'.eval (.tmp 47)) w' := hall.2.2.2.2.2.2.2.2.2.2.2.2.2.2.2.2.2.2.2.2.2.2.2.2.2.1 _ rfl
        have e48 : (fun u _ => u = undef) (a'.eval (.tmp 48)) w' := hall.2.2.2.2.2.2.2.2.2.2.2.2.2.2.2.2.2.2.2.2.2.2.2.2.2.2.1 _ rfl
        have e49 : (fun u _ => u = undef) (a'.eval (.tmp 49)) w' := hall.2.2.2.2.2.2.2.2.2.2.2.2.2.2.2.2.2.2.2.2.2.2.2.2.2.2.2.1 _ rfl
        have e50 : (fun u _ => u = (.bool true)) (a'.eval (.tmp 50)) w' := hall.2.2.2.2.2.2.2.2.2.2.2.2.2.2.2.2.2.2.2.2.2.2.2.2.2.2.2.2.1 _ rfl
        simp only [List.foldl_cons, List.foldl_nil, Act.put, List.setIfInBounds_toArray, List.set_cons_succ, List.set_cons_zero, e22, e23, e24, e25, e26, e27, e28, e29, e30, e31, e32, e33, e34, e35, e36, e37, e38, e39, e40, e41, e42, e43, e44, e45, e46, e47, e48, e49, e50] at hA
        clear hO hall e22 e23 e24 e25 e26 e27 e28 e29 e30 e31 e32 e33 e34 e35 e36 e37 e38 e39 e40 e41 e42 e43 e44 e45 e46 e47 e48 e49 e50
        subst hA
        have HB2 : Hid (Below w.heap.size w w') := Lib.hid (bnext HB1.out (of_drew hE))
        clear hE
        go_wp2
        go_ret2
        exact ⟨.slice none 0 0, by rw [HE.out]; rfl, fun h => absurd h (by rw [HE.out]; decide), HB2.out⟩
    · obtain rfl : m = len l := by omega
      have b0 : ¬ ((len l : Nat) : Int) < (len l : Nat) := by omega
      have HTK : Hid (l.take (len l) = l) := Lib.hid (take_len l)
      have HSO := Lib.hid HS.out.o
      rw [HTK.out] at HSO
      have HSB := Lib.hid HS.out.b
      have HY1 : Hid (laysH l = true) := Lib.hid (laysH_yes (fun i hi => HS.out.y i hi))
      have HY2 : Hid (followH stepH l = true) := Lib.hid (followH_yes (fun i hi h0 => HS.out.s i h0 hi))
      have HEO : Hid (elOk l = (decide (0 < len l) && decide (len l ≤ 64))) := Lib.hid (by unfold elOk; rw [HY1.out, HY2.out]; simp)
      by_cases h0 : len l = 0
      · have c1 : ¬ (1 : Int) ≤ len l := by omega
        have HE : Hid (elOk l = false) := Lib.hid (by rw [HEO.out, decide_eq_false (by omega)]; rfl)
        clear h0
        go_wp2
        go_ret2
        exact ⟨_, by rw [HE.out]; rfl, fun h => absurd h (by rw [HE.out]; decide), HSB.out⟩
      · have c1 : (1 : Int) ≤ len l := by omega
        by_cases h64 : len l ≤ 64
        · have c2 : (len l : Int) ≤ 64 := by omega
          have HE : Hid (elOk l = true) := Lib.hid (by rw [HEO.out, decide_eq_true (by omega), decide_eq_true h64]; rfl)
          clear h0 h64
          go_wp2
          go_ret2
          exact ⟨_, by rw [HE.out]; rfl, fun h => TextsAre.own HSO.out, HSB.out⟩
        · have c2 : ¬ (len l : Int) ≤ 64 := by omega
          have HE : Hid (elOk l = false) := Lib.hid (by rw [HEO.out, decide_eq_false h64]; simp)
          clear h0 h64
          go_wp2
          go_ret2
          exact ⟨_, by rw [HE.out]; rfl, fun h => absurd h (by rw [HE.out]; decide), HSB.out⟩
set_option maxRecDepth 100000 in
set_option maxHeartbeats 1000000 in
theorem rhroot_any (l : List Hdr) (a : Option Addr) (cap : Nat) (w : World) (hn : len l ≤ 100000) (hc : Hdrs w a l) (ho : ∀ i, (hnth l i).Ok) :
    Calls Tryz.prog 18 #[.slice a (len l) cap] w (RtIs l w) := by
  have HW := Lib.hid (relements_any l a cap w hn hc ho)
  clear hc ho hn
  by_cases h : elOk l = true
  · have HS := Lib.hid (elL_size h)
    have HL : Hid (len (elL l) ≤ 65536) := Lib.hid (by rw [elL_len]; have := (elOk_at h).2.1; omega)
    have HE : Hid (rtS l = treeR (elL l) ∧ rtE l = 0) := Lib.hid ⟨if_pos h, if_pos h⟩
    go_enter Tryz.func18, Tryz.ntmps18
    go_wp2_with fail
    refine HW.out.mono ?_
    rintro e w1 ⟨v, rfl, hx, hb⟩
    obtain ⟨a1, c1, rfl, ht, _, hc⟩ := hx h
    rw [h]
    have HB := Lib.hid hb
    have HT := Lib.hid ht
    have HC := Lib.hid hc
    clear hb ht hc hx h
    go_wp2_with fail
    refine (rbuild9_any (elL l) a1 c1 w1 HT.out HL.out HC.out).mono ?_
    rintro e w2 ⟨b, rfl, ht, hb⟩
    have HT := Lib.hid ht
    have HB : Hid (Below w.heap.size w w2) := Lib.hid (bnext HB.out hb)
    clear hb ht
    go_wp2_with fail
    refine (rroot9_any (elL l) b w2 HL.out (fun i hi => Nat.le_trans (HS.out i hi) (by decide)) HT.out).mono ?_
    rintro e w3 ⟨rfl, hb⟩
    have HB : Hid (Below w.heap.size w w3) := Lib.hid (bnext HB.out hb)
    clear hb
    go_wp2
    go_ret2
    exact ⟨by rw [HE.out.1, HE.out.2]; rfl, HB.out⟩
  · have h : elOk l = false := by simpa using h
    have HE : Hid (rtS l = ⟨#[]⟩ ∧ rtE l = 2) := Lib.hid ⟨if_neg (by rw [h]; decide), if_neg (by rw [h]; decide)⟩
    go_enter Tryz.func18, Tryz.ntmps18
    go_wp2_with fail
    refine HW.out.mono ?_
    rintro e w1 ⟨v, rfl, hx, hb⟩
    rw [h]
    have HB := Lib.hid hb
    clear hb hx h
    go_wp2
    go_ret2
    exact ⟨by rw [HE.out.1, HE.out.2]; rfl, HB.out⟩
theorem linked_no {l : List Hdr} {k : Nat} (hk : k + 1 < len l) (h : (hnth l (k + 1)).prev ≠ hdg (hnth l k)) : linkedH l = false := by
  unfold linkedH
  rw [followH_no (R := hangH) hk (by omega) (by unfold hangH; exact decide_eq_false h)]
  simp
set_option maxRecDepth 100000 in
set_option maxHeartbeats 4000000 in
theorem rlinked_any (l : List Hdr) (a : Option Addr) (cap : Nat) (w : World) (hn : len l ≤ 100000) (hc : Hdrs w a l) (ho : ∀ i, (hnth l i).Ok) :
    Calls Tryz.prog 20 #[.slice a (len l) cap] w fun e w' => e = .returned (.bool (linkedH l)) ∧ Below w.heap.size w w' := by
  have HC := Lib.hid hc
  have HO := Lib.hid ho
  have HN := Lib.hid hn
  have HW := Lib.hid (relements_any l a cap w hn hc ho)
  clear hc ho hn
  by_cases h : elOk l = true
  · have HEL := Lib.hid h
    go_enter Tryz.func20, Tryz.ntmps20
    go_wp2_with fail
    refine HW.out.mono ?_
    rintro e w1 ⟨v, rfl, -, hb⟩
    rw [h]
    have HB := Lib.hid hb
    clear hb h
    go_wp2
    go_loopg [5] (len l - 1) (fun gg i wr => ∃ k : Nat, gg + (k + 1) = len l ∧ i = .int .i64 ((k + 1 : Nat) : Int) ∧ Hid (Below w.heap.size w wr) ∧ Hid (∀ j, 0 < j → j < k + 1 → hangH (hnth l (j - 1)) (hnth l j) = true))
    case atStart => exact ⟨0, by have := (elOk_at HEL.out).1; omega, rfl, HB, Lib.hid (fun j h0 h1 => by omega)⟩
    case round =>
      obtain ⟨k, hk, rfl, HBR, HI⟩ := hrel
      by_cases hlt : k + 1 < len l
      · obtain ⟨b, off, rfl, ⟨f0, f1, f2, f3⟩⟩ := (HC.out.below HBR.out) k (by omega)
        obtain ⟨b', off', he, ⟨g0, g1, g2, g3⟩⟩ := (HC.out.below HBR.out) (k + 1) hlt
        cases he
        have HD := Lib.hid (fun w9 => rhdig_any (hnth l k) w9 (HO.out k))
        have HDS : Hid (dgS (hnth l k) = hdg (hnth l k) ∧ dgE (hnth l k) = 0) := Lib.hid (by
          have := laysH_at (elOk_at HEL.out).2.2.2 (i := k) (by omega)
          exact ⟨if_pos this, if_pos this⟩)
        unfold DgIs at HD
        rw [HDS.out.1, HDS.out.2] at HD
        obtain ⟨p, hp⟩ : ∃ p, hnth l k = p := ⟨_, rfl⟩
        obtain ⟨q, hq⟩ : ∃ q, hnth l (k + 1) = q := ⟨_, rfl⟩
        rw [hp] at HD f0 f1 f2 f3
        rw [hq] at g0 g1 g2 g3
        have HP := Lib.hid hp
        have HQ := Lib.hid hq
        obtain ⟨X, hX⟩ : ∃ X, hdg p = X := ⟨_, rfl⟩
        rw [hX] at HD
        have HX := Lib.hid hX
        obtain ⟨m, hmk⟩ : ∃ m, k + 1 = m := ⟨_, rfl⟩
        have HMK := Lib.hid hmk
        have HLT := Lib.hid hlt
        have i5 : IntKind.i64.wrap ((m : Int) - 1) = (k : Int) := by have := HN.out; rw [IntWalk.i64_in _ (by omega)]; omega
        have i6 : (k : Int) < len l := by omega
        have i7 : (m : Int) < len l := by omega
        have i8 : m < len l := by omega
        have i9 : k < len l := by omega
        rw [hmk] at g0 g1 g2 g3 hk ⊢
        have HG1 := Lib.hid g1
        clear hp hq hX hmk hlt g0 g2 g3
        go_wp2_with fail
        refine (HD.out _).mono ?_
        rintro e w2 ⟨rfl, hb⟩
        have HB2 : Hid (Below w.heap.size w w2) := Lib.hid (bnext HBR.out hb)
        have g1 : w2.cell? ⟨b, off + m * 4 + 1, none⟩ = some (.string q.prev) := (hb.cell (p := ⟨_, _, none⟩) (lt_of_cell HG1.out)).trans HG1.out
        clear hb f0 f1 f2 f3
        by_cases hh : q.prev = X
        · have e1 : (q.prev.toList == X.toList) = true := by rw [str_beq]; exact decide_eq_true hh
          have e2 : (q.prev.toList != X.toList) = false := by unfold bne; rw [e1]; rfl
          have HH : Hid (hangH (hnth l k) (hnth l m) = true) := Lib.hid (by unfold hangH; rw [HP.out, ← HMK.out, HQ.out, HX.out]; exact decide_eq_true hh)
          clear hh
          have HNN := HN.out
          go_wp2
          go_roundg (gk - 1)
          case rel => exact ⟨m, by omega, by go_num, HB2, Lib.hid (fun j h0 h1 => by
            by_cases e : j = m
            · subst e; rw [show j - 1 = k by have := HMK.out; omega]; exact HH.out
            · exact HI.out j h0 (by have := HMK.out; omega))⟩
          case measure => omega
        · have e1 : (q.prev.toList == X.toList) = false := by rw [str_beq]; exact decide_eq_false hh
          have e2 : (q.prev.toList != X.toList) = true := by unfold bne; rw [e1]; rfl
          have HNO : Hid (linkedH l = false) := Lib.hid (linked_no (k := k) HLT.out (by rw [HP.out, HQ.out, HX.out]; exact hh))
          clear hh
          go_wp2
          go_ret
          exact ⟨ret_bool (by rw [HNO.out]; try rfl), HB2.out⟩
      · have i7 : ¬ ((k + 1 : Nat) : Int) < len l := by omega
        have HYE : Hid (linkedH l = true) := Lib.hid (by
          unfold linkedH
          rw [HEL.out, followH_yes (fun i hi h0 => HI.out i h0 (by omega))]
          rfl)
        clear hlt
        go_wp2
        go_ret
        exact ⟨ret_bool (by rw [HYE.out]; try rfl), HBR.out⟩
  · have h : elOk l = false := by simpa using h
    have HE : Hid (linkedH l = false) := Lib.hid (by unfold linkedH; rw [h]; rfl)
    go_enter Tryz.func20, Tryz.ntmps20
    go_wp2_with fail
    refine HW.out.mono ?_
    rintro e w1 ⟨v, rfl, hx, hb⟩
    rw [h]
    have HB := Lib.hid hb
    clear hb hx h
    go_wp2
    go_ret
    exact ⟨ret_bool (by rw [HE.out]; try rfl), HB.out⟩
end Go.Proofs.YtpobhbdomldecaaGreatDoor
namespace Go.Proofs.YtpobhbdomldecaaGreatDoor
open Go.RowKit
set_option linter.unusedSimpArgs false
set_option linter.unusedVariables false
def zerN (k : Nat) : ByteArray := ⟨(List.replicate k (0 : UInt8)).toArray⟩
theorem zerN_size (k : Nat) : (zerN k).size = k := by
  show (List.replicate k (0 : UInt8)).toArray.size = k
  simp
def digT (s : ByteArray) : ByteArray := s.extract 0 (min s.size 32) ++ zerN (32 - min s.size 32)
theorem digT_size (s : ByteArray) : (digT s).size = 32 := by
  unfold digT
  rw [ByteArray.size_append, ByteArray.size_extract, zerN_size]
  omega
theorem digT_nil : digT ⟨#[]⟩ = zerT := by decide
theorem info_u8h : (Tryz.prog.info? 5).map (fun i => (i.zero, i.size, i.bytes)) = some (some (.int .u8 0), 1, 1) := by kernel_rfl
set_option maxRecDepth 100000 in
theorem make_zb (k : Nat) (kI : Int) (hkI : kI = (k : Int)) (hk : k ≤ 100) (W : World) : ∃ W', (Instr.makeSlice 41 (.int .i64 kI) (.int .i64 kI)).run Tryz.prog W = .ok (.slice (some ⟨W.heap.size, 0, none⟩) k k) W' ∧ Below W.heap.size W W' ∧ (convert 41 9 (.slice (some ⟨W.heap.size, 0, none⟩) k k)).run Tryz.prog W' = .ok (.string (zerN k)) W' := by
  subst hkI
  obtain ⟨i0, hi, hz0, hz1, hz2⟩ := info_parts info_u8h
  have hr := run_make (P := Tryz.prog) W 41 5 i0 (.int .u8 0) Tryz.underlying41 hi hz0 .i64 .i64 k k (by omega) (Int.le_refl _) (by rw [hz2]; omega) (by omega)
  refine ⟨_, hr, balloc (Below.refl _ _) _, ?_⟩
  refine conv_block _ W.heap.size 0 k k (List.replicate k 0) (by simp) (fun i hi2 => ?_)
  rw [Nat.zero_add, block_cell (heap_alloc_new _ _)]
  have e : (List.replicate k (0 : UInt8)).getD i 0 = 0 := by
    rw [List.getD_eq_getElem?_getD, List.getElem?_replicate]
    split <;> rfl
  rw [e, hz1]
  have h2 : (madeCells (Value.int .u8 0).cells (k * 1)).toList[i]? = some (.int .u8 0) := by
    show (madeCells #[.int .u8 0] (k * 1)).toList[i]? = _
    rw [toList_madeCells_one, List.getElem?_replicate]; simp; omega
  rw [Array.getElem?_toList] at h2
  exact h2
set_option maxRecDepth 100000 in
theorem dig23_any (s : ByteArray) (w : World) (hs : s.size ≤ 1000000) : Calls Tryz.prog 26 #[.string s] w fun e w' => e = .returned (.string (digT s)) ∧ Below w.heap.size w w' := by
  obtain ⟨q, hq⟩ : ∃ q : Nat, min s.size 32 = q := ⟨_, rfl⟩
  obtain ⟨t, ht⟩ : ∃ t, s.extract 0 q = t := ⟨_, rfl⟩
  have hts : t.size = q := by rw [← ht, ByteArray.size_extract]; omega
  have HE : Hid (digT s = t ++ zerN (32 - q)) := Lib.hid (by unfold digT; rw [hq, ht])
  obtain ⟨k, hk⟩ : ∃ k, 32 - q = k := ⟨_, rfl⟩
  rw [hk] at HE
  have hk32 : k ≤ 32 := by omega
  obtain ⟨W', mk, hb, cv⟩ := make_zb k ((k : Nat) : Int) rfl (by omega) w
  have HB := Lib.hid hb
  have mn : min ((s.size : Nat) : Int) 32 = ((q : Nat) : Int) := by omega
  have qs : q ≤ s.size := by omega
  have qs2 : ¬ s.size < q := by omega
  have sb : IntKind.i64.wrap (32 - ((q : Nat) : Int)) = ((k : Nat) : Int) := by rw [IntWalk.i64_in _ (by omega)]; omega
  have hzs : (zerN k).size = k := zerN_size k
  clear hq hk hb
  go_enter Tryz.func26, Tryz.ntmps26
  go_wp2
  go_ret
  exact ⟨by rw [HE.out]; rfl, HB.out⟩
set_option maxRecDepth 100000 in
theorem at23_any (n : Int) (p : ByteArray) (w : World) : Calls Tryz.prog 27 #[.int .u64 n, .string p] w fun e w' => e = .returned (hAt n p).val ∧ Below w.heap.size w w' := by
  go_enter Tryz.func27, Tryz.ntmps27
  go_wp2_with fail
  refine (dig23_any ⟨#[]⟩ _ (by decide)).mono ?_
  rintro e w1 ⟨rfl, hb⟩
  rw [digT_nil]
  have H0 := Lib.hid ((hb.block _ (by simp)).trans (heap_alloc_new w _))
  have HB : Hid (Below w.heap.size w w1) := Lib.hid (bnext (balloc (Below.refl _ _) _) hb)
  have c : ∀ o, w1.cell? ⟨w.heap.size, o, none⟩ = _ := block_cell H0.out
  have f : ∀ o, w1.frozen? ⟨w.heap.size, o, none⟩ = false := block_free H0.out
  obtain ⟨z, hz⟩ : ∃ z, zerT = z := ⟨_, rfl⟩
  have HZ := Lib.hid hz
  rw [hz]
  clear hb hz
  go_wp2
  obtain ⟨X, hX⟩ : ∃ X, (((w1.setCell ⟨w.heap.size, 0, none⟩ (.int .u64 n)).setCell ⟨w.heap.size, 1, none⟩ (.string p)).setCell ⟨w.heap.size, 2, none⟩ (.string z)).setCell ⟨w.heap.size, 3, none⟩ (.string z) = X := ⟨_, rfl⟩
  have HX : Hid (X.heap[w.heap.size]? = some (.cells #[.int .u64 n, .string p, .string z, .string z] 33 (0, 0))) := Lib.hid (by rw [← hX]; exact block_setCell (block_setCell (block_setCell (block_setCell H0.out _) _) _) _)
  have HXB : Hid (Below w.heap.size w X) := Lib.hid (by rw [← hX]; exact bset (bset (bset (bset HB.out (Nat.le_refl _) _) (Nat.le_refl _) _) (Nat.le_refl _) _) (Nat.le_refl _) _)
  rw [hX]
  clear hX c f
  have d : ∀ o, X.cell? ⟨w.heap.size, o, none⟩ = _ := block_cell HX.out
  refine bodyPost_ret (v := .agg #[.int .u64 n, .string p, .string z, .string z]) (by simp [results, Tryz.results27, go_sem, d]) rfl ?_
  exact ⟨by rw [← HZ.out]; rfl, HXB.out⟩
set_option maxRecDepth 100000 in
theorem refused_any (B : Nat) (l : List Hdr) (a : Option Addr) (cap : Nat) (w : World) (ht : PT B w) (hc : Hdrs w a l) (ho : ∀ i, (hnth l i).Ok) (hn : len l ≤ 100000) :
    Calls Tryz.prog 28 #[.slice a (len l) cap] w fun e w' => e = .returned (.bool (!elOk l)) ∧ Below w.heap.size w w' := by
  have HT := Lib.hid ht
  have HC := Lib.hid hc
  have HO := Lib.hid ho
  have HN := Lib.hid hn
  have HR := Lib.hid (hroot_any B l a cap w ht hc ho hn)
  clear ht hc ho hn
  cases hel : elOk l with
  | true =>
    have HE : Hid (rtE l = 0) := Lib.hid (if_pos hel)
    clear hel
    go_enter Tryz.func28, Tryz.ntmps28
    go_wp2_with fail
    refine HR.out.mono ?_
    rintro e w1 ⟨rfl, hb⟩
    rw [HE.out]
    have HB := Lib.hid hb
    clear hb
    go_wp2
    go_ret
    exact ⟨rfl, HB.out⟩
  | false =>
    have HE : Hid (rtE l = 2 ∧ rtS l = ⟨#[]⟩) := Lib.hid ⟨if_neg (by rw [hel]; decide), if_neg (by rw [hel]; decide)⟩
    have HL : Hid (linkedH l = false) := Lib.hid (by unfold linkedH; rw [hel]; rfl)
    clear hel
    go_enter Tryz.func28, Tryz.ntmps28
    go_wp2_with fail
    refine HR.out.mono ?_
    rintro e w1 ⟨rfl, hb⟩
    rw [HE.out.1, HE.out.2]
    have HB := Lib.hid hb
    clear hb
    go_wp2_with fail
    refine (hlinked_any B l a cap w1 (HT.out.below HB.out) (HC.out.below HB.out) HO.out HN.out).mono ?_
    rintro e w2 ⟨rfl, hb⟩
    rw [HL.out]
    have HB2 := Lib.hid (bnext HB.out hb)
    clear hb
    go_wp2
    go_ret
    exact ⟨rfl, HB2.out⟩
def cut40 (s : ByteArray) : ByteArray := s.extract 0 (min s.size 40)
theorem cut40_size (s : ByteArray) : (cut40 s).size ≤ 40 := by unfold cut40; rw [ByteArray.size_extract]; omega
def cutH (r : Hdr) : Hdr := ⟨r.rnd, cut40 r.prev, cut40 r.txns, cut40 r.seed⟩
theorem cutH_ok {r : Hdr} (h : U64i r.rnd) : (cutH r).Ok := ⟨h, Nat.le_trans (cut40_size _) (by decide), Nat.le_trans (cut40_size _) (by decide), Nat.le_trans (cut40_size _) (by decide)⟩
def shortH (l : List Hdr) : List Hdr := (l.take 70).map cutH
theorem shortH_len (l : List Hdr) : len (shortH l) = min (len l) 70 := by unfold shortH; rw [len_eq, len_eq, List.length_map, List.length_take]; omega
theorem info_hdr : (Tryz.prog.info? 33).map (fun i => (i.zero, i.size, i.bytes)) = some (some Hdr.zero.val, 4, 56) := by kernel_rfl
def HShIs (l : List Hdr) (w : World) (e : Ending) (w' : World) : Prop := ∃ v, e = .returned v ∧ w'.ownsRow w.heap.size 33 4 v (len (shortH l)) ((shortH l).flatMap Hdr.cells) ∧ Below w.heap.size w w'
set_option maxRecDepth 100000 in
set_option maxHeartbeats 4000000 in
theorem hshort_any (a : Option Addr) (cap : Nat) (l : List Hdr) (w : World) (hlen : len l ≤ 9223372036854775807) (hc : Hdrs w a l) (hz : ∀ i, (hnth l i).prev.size ≤ 9223372036854775807 ∧ (hnth l i).txns.size ≤ 9223372036854775807 ∧ (hnth l i).seed.size ≤ 9223372036854775807) :
    Calls Tryz.prog 15 #[.slice a (len l) cap] w (HShIs l w) := by
  have HC := Lib.hid hc
  have HN := Lib.hid hlen
  have HS := Lib.hid hz
  clear hc hz
  obtain ⟨i0, hi, hz0, hz1, hz2⟩ := info_parts info_hdr
  have HZ0 := Lib.hid hz0
  obtain ⟨M, hM⟩ : ∃ M, M = min (len l) 70 := ⟨_, rfl⟩
  clear hz0
  go_enter Tryz.func15, Tryz.ntmps15
  go_wp2
  go_loopg [3, 4] M (fun g v i wr => ∃ k : Nat, g + k = M ∧ i = .int .i64 k ∧ Hid (Below w.heap.size w wr) ∧ Hid (wr.ownsRow w.heap.size 33 4 v k (((l.take k).map cutH).flatMap Hdr.cells)))
  case atStart => exact ⟨0, rfl, rfl, Lib.hid (Below.refl _ _), Lib.hid (World.ownsRow_nil _ _ _ _)⟩
  case round =>
    obtain ⟨k, hk0, rfl, HB, HOWN⟩ := hrel
    by_cases hlt : k < M
    · obtain ⟨b, off, rfl, ⟨e0, e1, e2, e3⟩⟩ := HC.out.below HB.out k (by omega)
      have hs := HS.out k
      obtain ⟨r, hr⟩ : ∃ r, hnth l k = r := ⟨_, rfl⟩
      rw [hr] at e0 e1 e2 e3 hs
      have HR := Lib.hid hr
      have b0 : (k : Int) < len l := (by omega)
      have b1 : (k : Int) < 70 := (by omega)
      have b2 : k < len l := (by omega)
      have HK := Lib.hid b2
      obtain ⟨q1, hq1⟩ : ∃ q : Nat, min r.prev.size 40 = q := ⟨_, rfl⟩
      obtain ⟨q2, hq2⟩ : ∃ q : Nat, min r.txns.size 40 = q := ⟨_, rfl⟩
      obtain ⟨q3, hq3⟩ : ∃ q : Nat, min r.seed.size 40 = q := ⟨_, rfl⟩
      have m1 : min ((r.prev.size : Nat) : Int) 40 = (q1 : Int) := by omega
      have m2 : min ((r.txns.size : Nat) : Int) 40 = (q2 : Int) := by omega
      have m3 : min ((r.seed.size : Nat) : Int) 40 = (q3 : Int) := by omega
      have n1 : q1 ≤ r.prev.size := by omega
      have n2 : q2 ≤ r.txns.size := by omega
      have n3 : q3 ≤ r.seed.size := by omega
      have HQ : Hid (cutH r = ⟨r.rnd, r.prev.extract 0 q1, r.txns.extract 0 q2, r.seed.extract 0 q3⟩) := Lib.hid (by unfold cutH cut40; rw [hq1, hq2, hq3])
      clear hr hq1 hq2 hq3
      go_upto_region 9 with fail
      clear e0 e1 e2 e3 n1 n2 n3 m1 m2 m3 hs
      go_wp2_with (at_builtin; refine wpList_append_lies _ rfl _ _ 22 rfl w.heap.size 33 i0 Hdr.zero.val 4 56 Tryz.underlying22 hi HZ0.out hz1 hz2 rfl (by decide) _ k _ rfl ((HOWN.out.alloc _).alloc _) ⟨wr.heap.size + 1, 0, none⟩ 1 1 (Hdr.cells ⟨r.rnd, r.prev.extract 0 q1, r.txns.extract 0 q2, r.seed.extract 0 q3⟩) rfl rfl ?d1 (Hdr.cells_one _) (by decide) ?d4 ?d5 ?d6 _ rfl ?_)
      case d1 => exact World.news_of_block (alloc_new_at _ (alloc_size _ rfl))
      case d4 => unfold maxLen; omega
      case d5 => omega
      case d6 => have := HB.out.size; simp; omega
      intro g cp w2 hown hgrow hat hgl
      have HB2 := Lib.hid (grownBy_below (balloc (balloc HB.out _) _) hgrow (fun q hq => (HOWN.out.lt q hq).1))
      have HO2 : Hid (w2.ownsRow w.heap.size 33 4 (.slice (some ⟨g, 0, none⟩) (k + 1) cp) (k + 1) (((l.take (k + 1)).map cutH).flatMap Hdr.cells)) := Lib.hid (by
        have hsn : l.take (k + 1) = l.take k ++ [r] := (by rw [List.take_succ_eq_append_getElem HK.out, ← HR.out, hnth_eq l k HK.out])
        rw [hsn, List.map_append, List.flatMap_append]
        have e : [r].map cutH = [⟨r.rnd, r.prev.extract 0 q1, r.txns.extract 0 q2, r.seed.extract 0 q3⟩] := by rw [← HQ.out]; rfl
        rw [e]
        simpa using hown)
      clear hown hgrow hat hgl HOWN
      go_wp2
      go_roundg (gk - 1)
      case rel => exact ⟨k + 1, by omega, by go_num, HB2, HO2⟩
      case measure => omega
    · have hex : (¬ (k : Int) < len l) ∨ ((k : Int) < len l ∧ ¬ (k : Int) < 70) := by omega
      have hL : len (shortH l) = k := by rw [shortH_len]; omega
      have HO : Hid (wr.ownsRow w.heap.size 33 4 u3 (len (shortH l)) ((shortH l).flatMap Hdr.cells)) := Lib.hid (by
        have e : l.take k = l.take 70 := by
          rw [len_eq] at hM
          rcases Nat.lt_or_ge l.length 70 with h | h
          · rw [List.take_of_length_le (by omega), List.take_of_length_le (by omega)]
          · rw [show k = 70 by omega]
        have h := HOWN.out
        rw [e] at h
        rw [hL]; exact h)
      have HBB := Lib.hid HB.out
      clear HOWN hL hM hlt
      rcases hex with h1 | ⟨h1, h2⟩
      all_goals
        go_wp2
        go_ret
        exact ⟨_, rfl, HO.out, HBB.out⟩
end Go.Proofs.YtpobhbdomldecaaGreatDoor
namespace Go.Proofs.YtpobhbdomldecaaGreatDoor
open Go.RowKit
set_option linter.unusedSimpArgs false
set_option linter.unusedVariables false
theorem own_setk {base n c g m k : Nat} {w : World} {e : TypeId} {xs : List Value} {u : Value} (h : w.ownsRow base e k (.slice (some ⟨g, 0, none⟩) n c) n xs) : (w.setCell ⟨g, m, none⟩ u).ownsRow base e k (.slice (some ⟨g, 0, none⟩) n c) n (xs.set m u) := by
  refine ⟨by rw [List.length_set]; exact h.1, ?_⟩
  rcases h.2 with ⟨hz, _⟩ | ⟨g9, cap, cur, hv, hg, hh, h1, h2, h3, h4⟩
  · cases hz
  · cases hv
    refine Or.inr ⟨g, c, cur.setIfInBounds m u, rfl, hg, block_setCell hh u, h1, h2, by rw [Array.size_setIfInBounds]; exact h3, ?_⟩
    rw [Array.toList_setIfInBounds, ← h4, List.take_set]
theorem flat_set {α β : Type} (f : α → List β) (k : Nat) (hf : ∀ x, (f x).length = k) {u : β} {x' : α} : ∀ (l : List α) (i j : Nat) (hi : i < l.length), j < k → f x' = (f l[i]).set j u → (l.flatMap f).set (i * k + j) u = (l.set i x').flatMap f
  | x :: l, 0, j, _, hj, hx => by
    simp only [List.flatMap_cons, Nat.zero_mul, Nat.zero_add, List.getElem_cons_zero, List.set_cons_zero] at hx ⊢
    rw [List.set_append_left _ _ (by rw [hf]; exact hj), hx]
  | x :: l, i + 1, j, hi, hj, hx => by
    simp only [List.flatMap_cons, List.getElem_cons_succ, List.set_cons_succ] at hx ⊢
    rw [List.set_append_right _ _ (by rw [hf, Nat.add_mul]; omega), hf, show (i + 1) * k + j - k = i * k + j by rw [Nat.add_mul]; omega]
    rw [flat_set f k hf l i j (by simpa using hi) hj hx]
def OwnH (base g c : Nat) (L : List Hdr) (w : World) : Prop := w.ownsRow base 33 4 (.slice (some ⟨g, 0, none⟩) (len L) c) (len L) (L.flatMap Hdr.cells)
theorem OwnH.below {base g c : Nat} {L : List Hdr} {w w' : World} (h : OwnH base g c L w) (hb : Below w.heap.size w w') : OwnH base g c L w' := own_below h hb
theorem OwnH.set {base g c : Nat} {L : List Hdr} {w : World} (h : OwnH base g c L w) {i j : Nat} {u : Value} {r' : Hdr} (hi : i < len L) (hj : j < 4) (hr : r'.cells = (hnth L i).cells.set j u) : OwnH base g c (L.set i r') (w.setCell ⟨g, i * 4 + j, none⟩ u) := by
  unfold OwnH
  have hl : len (L.set i r') = len L := by rw [len_eq, len_eq, List.length_set]
  rw [hl, ← flat_set Hdr.cells 4 Hdr.cells_len L i j hi hj (by rw [hr, hnth_eq L i hi])]
  exact own_setk h
theorem hset_len (L : List Hdr) (i : Nat) (r : Hdr) : len (L.set i r) = len L := by rw [len_eq, len_eq, List.length_set]
theorem hset_at (L : List Hdr) (i j : Nat) (r : Hdr) (hi : i < len L) : hnth (L.set i r) j = if i = j then r else hnth L j := by
  unfold hnth
  rw [List.getD_eq_getElem?_getD, List.getElem?_set, List.getD_eq_getElem?_getD]
  have hi2 : i < L.length := hi
  by_cases e : i = j
  · subst e; simp [hi2]
  · simp [e]
theorem OwnH.lt {base g c : Nat} {L : List Hdr} {w : World} (h : OwnH base g c L w) : base ≤ g ∧ g < w.heap.size := h.1 |> fun _ => World.ownsRow.lt h g rfl
structure HCells (w : World) (g i : Nat) (r : Hdr) : Prop where
  c0 : w.cell? ⟨g, i * 4, none⟩ = some (.int .u64 r.rnd)
  c1 : w.cell? ⟨g, i * 4 + 1, none⟩ = some (.string r.prev)
  c2 : w.cell? ⟨g, i * 4 + 2, none⟩ = some (.string r.txns)
  c3 : w.cell? ⟨g, i * 4 + 3, none⟩ = some (.string r.seed)
  f : ∀ o, w.frozen? ⟨g, o, none⟩ = false
theorem OwnH.at {base g c : Nat} {L : List Hdr} {w : World} (h : OwnH base g c L w) {i : Nat} (hi : i < len L) : HCells w g i (hnth L i) := by
  obtain ⟨a, cap, e, hh, _⟩ := Hdrs.own h
  cases e
  obtain ⟨b, off, e, ⟨h0, h1, h2, h3⟩⟩ := hh i hi
  cases e
  rw [Nat.zero_add] at h0 h1 h2 h3
  rcases h.2 with ⟨hz, _⟩ | ⟨g9, cap, cur, hv, hg, hb, _⟩
  · cases hz
  · cases hv
    exact ⟨h0, h1, h2, h3, block_free hb⟩
theorem ownH_of {base n : Nat} {v : Value} {L : List Hdr} {w : World} (h : w.ownsRow base 33 4 v n (L.flatMap Hdr.cells)) : (v = .slice none 0 0 ∧ L = []) ∨ ∃ g c, v = .slice (some ⟨g, 0, none⟩) (len L) c ∧ OwnH base g c L w := by
  have hn : len L = n := by have := h.1; rw [flat_length Hdr.cells 4 Hdr.cells_len] at this; rw [len_eq]; omega
  rcases h.2 with ⟨hv, h0⟩ | ⟨g, cap, cur, hv, hr⟩
  · exact .inl ⟨hv, List.eq_nil_of_length_eq_zero (by rw [← len_eq]; omega)⟩
  · exact .inr ⟨g, cap, by rw [hn]; exact hv, by unfold OwnH; rw [hn, ← hv]; exact h⟩
theorem dgS_size (r : Hdr) : (dgS r).size ≤ 1000000 := by
  unfold dgS
  split
  · rw [hdg_size]; decide
  · exact Nat.zero_le _
def HChIs (l : List Hdr) (w : World) (e : Ending) (w' : World) : Prop := ∃ v L, e = .returned v ∧ w'.ownsRow w.heap.size 33 4 v (len L) (L.flatMap Hdr.cells) ∧ len L ≤ 70 ∧ (∀ i, (hnth L i).Ok) ∧ Below w.heap.size w w'
theorem ok_set {L : List Hdr} (h : ∀ i, (hnth L i).Ok) {i : Nat} {r : Hdr} (hi : i < len L) (hr : r.Ok) : ∀ j, (hnth (L.set i r) j).Ok := fun j => by
  rw [hset_at L i j r hi]
  split
  · exact hr
  · exact h j
set_option maxRecDepth 100000 in
set_option maxHeartbeats 4000000 in
theorem hchain_any (a : Option Addr) (cap : Nat) (l : List Hdr) (A Bq : Int) (w : World) (hlen : len l ≤ 9223372036854775807) (hc : Hdrs w a l) (hz : ∀ i, (hnth l i).prev.size ≤ 9223372036854775807 ∧ (hnth l i).txns.size ≤ 9223372036854775807 ∧ (hnth l i).seed.size ≤ 9223372036854775807)
    (hr : ∀ i, U64i (hnth l i).rnd) (hA : U64i A) (hB0 : 0 ≤ Bq) (hB1 : Bq ≤ 255) :
    Calls Tryz.prog 16 #[.slice a (len l) cap, .int .u64 A, .int .u8 Bq] w (HChIs l w) := by
  have HSH := Lib.hid (hshort_any a cap l w hlen hc hz)
  have HR := Lib.hid hr
  have HA := Lib.hid hA
  clear hlen hc hz hr
  go_enter Tryz.func16, Tryz.ntmps16
  go_wp2_with fail
  refine HSH.out.mono ?_
  rintro e w1 ⟨v, rfl, hown, hb⟩
  have HB := Lib.hid hb
  have HL70 : Hid (len (shortH l) ≤ 70) := Lib.hid (by rw [shortH_len]; omega)
  have HOK : Hid (∀ i, (hnth (shortH l) i).Ok) := Lib.hid (hoks (fun p hp => by
    unfold shortH at hp
    obtain ⟨q, hq, rfl⟩ := List.mem_map.1 hp
    obtain ⟨i, hi, rfl⟩ := List.getElem_of_mem (List.mem_of_mem_take hq)
    have := HR.out i
    rw [hnth_eq l i hi] at this
    exact cutH_ok this))
  rcases ownH_of hown with ⟨rfl, hnil⟩ | ⟨g, c, rfl, ho⟩
  · clear hown hb
    go_wp2
    go_loopg [8] 0 (fun gg i wr => i = .int .i64 0 ∧ wr = w1)
    case atStart => exact ⟨rfl, rfl⟩
    case round =>
      obtain ⟨rfl, rfl⟩ := hrel
      go_wp2
      go_ret
      exact ⟨_, [], rfl, World.ownsRow_nil _ _ _ _, by decide, fun i => Hdr.zero_ok, HB.out⟩
  · have HO := Lib.hid ho
    obtain ⟨L0, hL0⟩ : ∃ L0, shortH l = L0 := ⟨_, rfl⟩
    rw [hL0] at HO HL70 HOK ⊢
    obtain ⟨N, hN⟩ : ∃ N, len L0 = N := ⟨_, rfl⟩
    rw [hN] at HL70 ⊢
    have HNN := Lib.hid hN
    clear ho hown hb hL0 hN
    go_wp2
    go_loopg [7, 8] N (fun gg pv i wr => ∃ (m : Nat) (L : List Hdr) (p : ByteArray), gg + m = N ∧ pv = .string p ∧ i = .int .i64 (m : Nat) ∧ Hid (Below w.heap.size w wr ∧ OwnH w.heap.size g c L wr) ∧ Hid (len L = N ∧ (∀ i, (hnth L i).Ok) ∧ p.size ≤ 1000000))
    case atStart => exact ⟨0, L0, ⟨#[]⟩, rfl, rfl, rfl, Lib.hid ⟨HB.out, HO.out⟩, Lib.hid ⟨HNN.out, HOK.out, by decide⟩⟩
    case round =>
      obtain ⟨m, L, p, hm, rfl, rfl, HW, HI⟩ := hrel
      by_cases hlt : m < N
      · have HM : Hid (m < len L) := Lib.hid (by rw [HI.out.1]; exact hlt)
        obtain ⟨e0, e1, e2, e3, f⟩ := HW.out.2.at HM.out
        have HQO := Lib.hid (HI.out.2.1 m)
        obtain ⟨q, hq⟩ : ∃ q, hnth L m = q := ⟨_, rfl⟩
        rw [hq] at e0 e1 e2 e3 HQO
        have HQ := Lib.hid hq
        have h70 := HL70.out
        have b0 : (m : Int) < N := by omega
        have b1 : IntKind.u64.wrap ((m : Nat) : Int) = ((m : Nat) : Int) := IntWalk.u64_in _ (by omega)
        have b2 : m < N := hlt
        obtain ⟨X, hX⟩ : ∃ X, IntKind.u64.wrap (A + ((m : Nat) : Int)) = X := ⟨_, rfl⟩
        have HX : Hid (U64i X) := Lib.hid (by rw [← hX, IntKind.wrap_u64]; unfold U64i; omega)
        clear hq
        go_upto_region 7 with fail
        clear e0 e1 e2 e3 f
        obtain ⟨W1, hW1⟩ : ∃ W1, wr.setCell ⟨g, m * 4, none⟩ (.int .u64 X) = W1 := ⟨_, rfl⟩
        have HO1 : Hid (OwnH w.heap.size g c (L.set m ⟨X, q.prev, q.txns, q.seed⟩) W1) := Lib.hid (by rw [← hW1]; exact HW.out.2.set (j := 0) HM.out (by decide) (by rw [HQ.out]; rfl))
        have HB1 : Hid (Below w.heap.size w W1) := Lib.hid (by rw [← hW1]; exact bset HW.out.1 HW.out.2.lt.1 _)
        rw [hW1]
        clear hW1 b1 hX
        obtain ⟨L1, hL1⟩ : ∃ L1, L.set m ⟨X, q.prev, q.txns, q.seed⟩ = L1 := ⟨_, rfl⟩
        have HM1 : Hid (m < len L1) := Lib.hid (by rw [← hL1, hset_len]; exact HM.out)
        have HN1 : Hid (len L1 = N) := Lib.hid (by rw [← hL1, hset_len]; exact HI.out.1)
        have HA1 : Hid (hnth L1 m = ⟨X, q.prev, q.txns, q.seed⟩) := Lib.hid (by rw [← hL1, hset_at _ _ _ _ HM.out, if_pos rfl])
        have HK1 : Hid (∀ i, (hnth L1 i).Ok) := Lib.hid (by rw [← hL1]; exact ok_set HI.out.2.1 HM.out ⟨HX.out, HQO.out.p1, HQO.out.t1, HQO.out.s1⟩)
        rw [hL1] at HO1
        clear hL1
        obtain ⟨e0, e1, e2, e3, f⟩ := HO1.out.at HM1.out
        rw [HA1.out] at e0 e1 e2 e3
        go_wp2_with fail
        refine (dig23_any q.txns W1 HQO.out.t1).mono ?_
        rintro e w2 ⟨rfl, hb⟩
        obtain ⟨D2, hD2⟩ : ∃ D2, digT q.txns = D2 := ⟨_, rfl⟩
        have HD2 : Hid (D2.size = 32) := Lib.hid (by rw [← hD2]; exact digT_size _)
        have HO2 := Lib.hid (HO1.out.below hb)
        have HB2 : Hid (Below w.heap.size w w2) := Lib.hid (bnext HB1.out hb)
        rw [hD2]
        clear e0 e1 e2 e3 f hb hD2
        obtain ⟨e0, e1, e2, e3, f⟩ := HO2.out.at HM1.out
        rw [HA1.out] at e0 e1 e2 e3
        go_upto_region 8 with fail
        clear e0 e1 e2 e3 f
        obtain ⟨W3, hW3⟩ : ∃ W3, w2.setCell ⟨g, m * 4 + 2, none⟩ (.string D2) = W3 := ⟨_, rfl⟩
        have HO3 : Hid (OwnH w.heap.size g c (L1.set m ⟨X, q.prev, D2, q.seed⟩) W3) := Lib.hid (by rw [← hW3]; exact HO2.out.set (j := 2) HM1.out (by decide) (by rw [HA1.out]; rfl))
        have HB3 : Hid (Below w.heap.size w W3) := Lib.hid (by rw [← hW3]; exact bset HB2.out HO2.out.lt.1 _)
        rw [hW3]
        clear hW3
        obtain ⟨L3, hL3⟩ : ∃ L3, L1.set m ⟨X, q.prev, D2, q.seed⟩ = L3 := ⟨_, rfl⟩
        have HM3 : Hid (m < len L3) := Lib.hid (by rw [← hL3, hset_len]; exact HM1.out)
        have HN3 : Hid (len L3 = N) := Lib.hid (by rw [← hL3, hset_len]; exact HN1.out)
        have HA3 : Hid (hnth L3 m = ⟨X, q.prev, D2, q.seed⟩) := Lib.hid (by rw [← hL3, hset_at _ _ _ _ HM1.out, if_pos rfl])
        have HK3 : Hid (∀ i, (hnth L3 i).Ok) := Lib.hid (by rw [← hL3]; exact ok_set HK1.out HM1.out ⟨HX.out, HQO.out.p1, by show D2.size ≤ _; rw [HD2.out]; decide, HQO.out.s1⟩)
        rw [hL3] at HO3
        clear hL3
        obtain ⟨e0, e1, e2, e3, f⟩ := HO3.out.at HM3.out
        rw [HA3.out] at e0 e1 e2 e3
        go_wp2_with fail
        refine (dig23_any q.seed W3 HQO.out.s1).mono ?_
        rintro e w4 ⟨rfl, hb⟩
        obtain ⟨D4, hD4⟩ : ∃ D4, digT q.seed = D4 := ⟨_, rfl⟩
        have HD4 : Hid (D4.size = 32) := Lib.hid (by rw [← hD4]; exact digT_size _)
        have HO4 := Lib.hid (HO3.out.below hb)
        have HB4 : Hid (Below w.heap.size w w4) := Lib.hid (bnext HB3.out hb)
        rw [hD4]
        clear e0 e1 e2 e3 f hb hD4
        obtain ⟨e0, e1, e2, e3, f⟩ := HO4.out.at HM3.out
        rw [HA3.out] at e0 e1 e2 e3
        go_upto_region 9 with fail
        clear e0 e1 e2 e3 f
        obtain ⟨W5, hW5⟩ : ∃ W5, w4.setCell ⟨g, m * 4 + 3, none⟩ (.string D4) = W5 := ⟨_, rfl⟩
        have HO5 : Hid (OwnH w.heap.size g c (L3.set m ⟨X, q.prev, D2, D4⟩) W5) := Lib.hid (by rw [← hW5]; exact HO4.out.set (j := 3) HM3.out (by decide) (by rw [HA3.out]; rfl))
        have HB5 : Hid (Below w.heap.size w W5) := Lib.hid (by rw [← hW5]; exact bset HB4.out HO4.out.lt.1 _)
        rw [hW5]
        clear hW5
        obtain ⟨L5, hL5⟩ : ∃ L5, L3.set m ⟨X, q.prev, D2, D4⟩ = L5 := ⟨_, rfl⟩
        have HM5 : Hid (m < len L5) := Lib.hid (by rw [← hL5, hset_len]; exact HM3.out)
        have HN5 : Hid (len L5 = N) := Lib.hid (by rw [← hL5, hset_len]; exact HN3.out)
        have HA5 : Hid (hnth L5 m = ⟨X, q.prev, D2, D4⟩) := Lib.hid (by rw [← hL5, hset_at _ _ _ _ HM3.out, if_pos rfl])
        have HK5 : Hid (∀ i, (hnth L5 i).Ok) := Lib.hid (by rw [← hL5]; exact ok_set HK3.out HM3.out ⟨HX.out, HQO.out.p1, by show D2.size ≤ _; rw [HD2.out]; decide, by show D4.size ≤ _; rw [HD4.out]; decide⟩)
        rw [hL5] at HO5
        clear hL5
        obtain ⟨e0, e1, e2, e3, f⟩ := HO5.out.at HM5.out
        rw [HA5.out] at e0 e1 e2 e3
        by_cases hm0 : m = 0
        · subst hm0
          go_upto_region 11 with fail
          clear e0 e1 e2 e3 f
          have HO6 := HO5
          have HM6 := HM5
          have HN6 := HN5
          have HK6 := HK5
          have HA6 := HA5
          have HB6 := HB5
          obtain ⟨L6, hL6⟩ : ∃ L6, L5 = L6 := ⟨_, rfl⟩
          rw [hL6] at HO6 HM6 HN6 HK6 HA6
          obtain ⟨pv, hpv⟩ : ∃ pv, q.prev = pv := ⟨_, rfl⟩
          have HPV : Hid (pv.size ≤ 1000000) := Lib.hid (by rw [← hpv]; exact HQO.out.p1)
          rw [hpv] at HA6
          clear hL6 hpv
          obtain ⟨e0, e1, e2, e3, f⟩ := HO6.out.at HM6.out
          rw [HA6.out] at e0 e1 e2 e3
          go_wp2_with fail
          refine (dig23_any pv _ HPV.out).mono ?_
          rintro e w7 ⟨rfl, hb⟩
          obtain ⟨D7, hD7⟩ : ∃ D7, digT pv = D7 := ⟨_, rfl⟩
          have HD7 : Hid (D7.size = 32) := Lib.hid (by rw [← hD7]; exact digT_size _)
          have HO7 := Lib.hid (HO6.out.below hb)
          have HB7 : Hid (Below w.heap.size w w7) := Lib.hid (bnext HB6.out hb)
          rw [hD7]
          clear e0 e1 e2 e3 f hb hD7
          obtain ⟨e0, e1, e2, e3, f⟩ := HO7.out.at HM6.out
          rw [HA6.out] at e0 e1 e2 e3
          go_upto_region 12 with fail
          clear e0 e1 e2 e3 f
          obtain ⟨W8, hW8⟩ : ∃ W8, w7.setCell ⟨g, 0 * 4 + 1, none⟩ (.string D7) = W8 := ⟨_, rfl⟩
          have HO8 : Hid (OwnH w.heap.size g c (L6.set 0 ⟨X, D7, D2, D4⟩) W8) := Lib.hid (by rw [← hW8]; exact HO7.out.set (j := 1) HM6.out (by decide) (by rw [HA6.out]; rfl))
          have HB8 : Hid (Below w.heap.size w W8) := Lib.hid (by rw [← hW8]; exact bset HB7.out HO7.out.lt.1 _)
          have h88 : w7.setCell ⟨g, 1, none⟩ (.string D7) = W8 := hW8
          rw [h88]
          clear hW8 h88
          obtain ⟨L8, hL8⟩ : ∃ L8, L6.set 0 ⟨X, D7, D2, D4⟩ = L8 := ⟨_, rfl⟩
          have HM8 : Hid (0 < len L8) := Lib.hid (by rw [← hL8, hset_len]; exact HM6.out)
          have HN8 : Hid (len L8 = N) := Lib.hid (by rw [← hL8, hset_len]; exact HN6.out)
          have HA8 : Hid (hnth L8 0 = ⟨X, D7, D2, D4⟩) := Lib.hid (by rw [← hL8, hset_at _ _ _ _ HM6.out, if_pos rfl])
          have HR8 : Hid ((⟨X, D7, D2, D4⟩ : Hdr).Ok) := Lib.hid ⟨HX.out, by show D7.size ≤ _; rw [HD7.out]; decide, by show D2.size ≤ _; rw [HD2.out]; decide, by show D4.size ≤ _; rw [HD4.out]; decide⟩
          have HK8 : Hid (∀ i, (hnth L8 i).Ok) := Lib.hid (by rw [← hL8]; exact ok_set HK6.out HM6.out HR8.out)
          rw [hL8] at HO8
          clear hL8
          obtain ⟨e0, e1, e2, e3, f⟩ := HO8.out.at HM8.out
          rw [HA8.out] at e0 e1 e2 e3
          go_wp2_with fail
          refine (rhdig_any ⟨X, D7, D2, D4⟩ W8 HR8.out).mono ?_
          rintro e w9 ⟨rfl, hb⟩
          have HO9 := Lib.hid (HO8.out.below hb)
          have HB9 : Hid (Below w.heap.size w w9) := Lib.hid (bnext HB8.out hb)
          obtain ⟨P9, hP9⟩ : ∃ P9, dgS ⟨X, D7, D2, D4⟩ = P9 := ⟨_, rfl⟩
          have HP9 : Hid (P9.size ≤ 1000000) := Lib.hid (by rw [← hP9]; exact dgS_size _)
          rw [hP9]
          clear hb e0 e1 e2 e3 f hP9
          go_wp2
          go_roundg (gk - 1)
          case rel => exact ⟨0 + 1, L8, P9, by omega, rfl, by go_num, Lib.hid ⟨HB9.out, HO9.out⟩, Lib.hid ⟨HN8.out, HK8.out, HP9.out⟩⟩
          case measure => omega
        · have hm1 : 0 < m := by omega
          clear hm0
          go_upto_region 11 with fail
          · clear e0 e1 e2 e3 f
            obtain ⟨W6, hW6⟩ : ∃ W6, W5.setCell ⟨g, m * 4 + 1, none⟩ (.string p) = W6 := ⟨_, rfl⟩
            have HO6 : Hid (OwnH w.heap.size g c (L5.set m ⟨X, p, D2, D4⟩) W6) := Lib.hid (by rw [← hW6]; exact HO5.out.set (j := 1) HM5.out (by decide) (by rw [HA5.out]; rfl))
            have HB6 : Hid (Below w.heap.size w W6) := Lib.hid (by rw [← hW6]; exact bset HB5.out HO5.out.lt.1 _)
            rw [hW6]
            clear hW6
            obtain ⟨L6, hL6⟩ : ∃ L6, L5.set m ⟨X, p, D2, D4⟩ = L6 := ⟨_, rfl⟩
            have HM6 : Hid (m < len L6) := Lib.hid (by rw [← hL6, hset_len]; exact HM5.out)
            have HN6 : Hid (len L6 = N) := Lib.hid (by rw [← hL6, hset_len]; exact HN5.out)
            have HK6 : Hid (∀ i, (hnth L6 i).Ok) := Lib.hid (by rw [← hL6]; exact ok_set HK5.out HM5.out ⟨HX.out, HI.out.2.2, by show D2.size ≤ _; rw [HD2.out]; decide, by show D4.size ≤ _; rw [HD4.out]; decide⟩)
            obtain ⟨pv, hpv⟩ : ∃ pv, p = pv := ⟨_, rfl⟩
            have HPV : Hid (pv.size ≤ 1000000) := Lib.hid (by rw [← hpv]; exact HI.out.2.2)
            have HA6 : Hid (hnth L6 m = ⟨X, pv, D2, D4⟩) := Lib.hid (by rw [← hL6, hset_at _ _ _ _ HM5.out, if_pos rfl, hpv])
            rw [hL6] at HO6
            clear hL6 hpv
            obtain ⟨e0, e1, e2, e3, f⟩ := HO6.out.at HM6.out
            rw [HA6.out] at e0 e1 e2 e3
            go_wp2_with fail
            refine (dig23_any pv _ HPV.out).mono ?_
            rintro e w7 ⟨rfl, hb⟩
            obtain ⟨D7, hD7⟩ : ∃ D7, digT pv = D7 := ⟨_, rfl⟩
            have HD7 : Hid (D7.size = 32) := Lib.hid (by rw [← hD7]; exact digT_size _)
            have HO7 := Lib.hid (HO6.out.below hb)
            have HB7 : Hid (Below w.heap.size w w7) := Lib.hid (bnext HB6.out hb)
            rw [hD7]
            clear e0 e1 e2 e3 f hb hD7
            obtain ⟨e0, e1, e2, e3, f⟩ := HO7.out.at HM6.out
            rw [HA6.out] at e0 e1 e2 e3
            go_upto_region 12 with fail
            clear e0 e1 e2 e3 f
            obtain ⟨W8, hW8⟩ : ∃ W8, w7.setCell ⟨g, m * 4 + 1, none⟩ (.string D7) = W8 := ⟨_, rfl⟩
            have HO8 : Hid (OwnH w.heap.size g c (L6.set m ⟨X, D7, D2, D4⟩) W8) := Lib.hid (by rw [← hW8]; exact HO7.out.set (j := 1) HM6.out (by decide) (by rw [HA6.out]; rfl))
            have HB8 : Hid (Below w.heap.size w W8) := Lib.hid (by rw [← hW8]; exact bset HB7.out HO7.out.lt.1 _)
            have h88 : w7.setCell ⟨g, m * 4 + 1, none⟩ (.string D7) = W8 := hW8
            rw [h88]
            clear hW8 h88
            obtain ⟨L8, hL8⟩ : ∃ L8, L6.set m ⟨X, D7, D2, D4⟩ = L8 := ⟨_, rfl⟩
            have HM8 : Hid (m < len L8) := Lib.hid (by rw [← hL8, hset_len]; exact HM6.out)
            have HN8 : Hid (len L8 = N) := Lib.hid (by rw [← hL8, hset_len]; exact HN6.out)
            have HA8 : Hid (hnth L8 m = ⟨X, D7, D2, D4⟩) := Lib.hid (by rw [← hL8, hset_at _ _ _ _ HM6.out, if_pos rfl])
            have HR8 : Hid ((⟨X, D7, D2, D4⟩ : Hdr).Ok) := Lib.hid ⟨HX.out, by show D7.size ≤ _; rw [HD7.out]; decide, by show D2.size ≤ _; rw [HD2.out]; decide, by show D4.size ≤ _; rw [HD4.out]; decide⟩
            have HK8 : Hid (∀ i, (hnth L8 i).Ok) := Lib.hid (by rw [← hL8]; exact ok_set HK6.out HM6.out HR8.out)
            rw [hL8] at HO8
            clear hL8
            obtain ⟨e0, e1, e2, e3, f⟩ := HO8.out.at HM8.out
            rw [HA8.out] at e0 e1 e2 e3
            go_wp2_with fail
            refine (rhdig_any ⟨X, D7, D2, D4⟩ W8 HR8.out).mono ?_
            rintro e w9 ⟨rfl, hb⟩
            have HO9 := Lib.hid (HO8.out.below hb)
            have HB9 : Hid (Below w.heap.size w w9) := Lib.hid (bnext HB8.out hb)
            obtain ⟨P9, hP9⟩ : ∃ P9, dgS ⟨X, D7, D2, D4⟩ = P9 := ⟨_, rfl⟩
            have HP9 : Hid (P9.size ≤ 1000000) := Lib.hid (by rw [← hP9]; exact dgS_size _)
            rw [hP9]
            clear hb e0 e1 e2 e3 f hP9
            go_wp2
            go_roundg (gk - 1)
            case rel => exact ⟨m + 1, L8, P9, by omega, rfl, by go_num, Lib.hid ⟨HB9.out, HO9.out⟩, Lib.hid ⟨HN8.out, HK8.out, HP9.out⟩⟩
            case measure => omega
          · clear e0 e1 e2 e3 f
            have HO6 := HO5
            have HM6 := HM5
            have HN6 := HN5
            have HK6 := HK5
            have HA6 := HA5
            have HB6 := HB5
            obtain ⟨L6, hL6⟩ : ∃ L6, L5 = L6 := ⟨_, rfl⟩
            rw [hL6] at HO6 HM6 HN6 HK6 HA6
            obtain ⟨pv, hpv⟩ : ∃ pv, q.prev = pv := ⟨_, rfl⟩
            have HPV : Hid (pv.size ≤ 1000000) := Lib.hid (by rw [← hpv]; exact HQO.out.p1)
            rw [hpv] at HA6
            clear hL6 hpv
            obtain ⟨e0, e1, e2, e3, f⟩ := HO6.out.at HM6.out
            rw [HA6.out] at e0 e1 e2 e3
            go_wp2_with fail
            refine (dig23_any pv _ HPV.out).mono ?_
            rintro e w7 ⟨rfl, hb⟩
            obtain ⟨D7, hD7⟩ : ∃ D7, digT pv = D7 := ⟨_, rfl⟩
            have HD7 : Hid (D7.size = 32) := Lib.hid (by rw [← hD7]; exact digT_size _)
            have HO7 := Lib.hid (HO6.out.below hb)
            have HB7 : Hid (Below w.heap.size w w7) := Lib.hid (bnext HB6.out hb)
            rw [hD7]
            clear e0 e1 e2 e3 f hb hD7
            obtain ⟨e0, e1, e2, e3, f⟩ := HO7.out.at HM6.out
            rw [HA6.out] at e0 e1 e2 e3
            go_upto_region 12 with fail
            clear e0 e1 e2 e3 f
            obtain ⟨W8, hW8⟩ : ∃ W8, w7.setCell ⟨g, m * 4 + 1, none⟩ (.string D7) = W8 := ⟨_, rfl⟩
            have HO8 : Hid (OwnH w.heap.size g c (L6.set m ⟨X, D7, D2, D4⟩) W8) := Lib.hid (by rw [← hW8]; exact HO7.out.set (j := 1) HM6.out (by decide) (by rw [HA6.out]; rfl))
            have HB8 : Hid (Below w.heap.size w W8) := Lib.hid (by rw [← hW8]; exact bset HB7.out HO7.out.lt.1 _)
            have h88 : w7.setCell ⟨g, m * 4 + 1, none⟩ (.string D7) = W8 := hW8
            rw [h88]
            clear hW8 h88
            obtain ⟨L8, hL8⟩ : ∃ L8, L6.set m ⟨X, D7, D2, D4⟩ = L8 := ⟨_, rfl⟩
            have HM8 : Hid (m < len L8) := Lib.hid (by rw [← hL8, hset_len]; exact HM6.out)
            have HN8 : Hid (len L8 = N) := Lib.hid (by rw [← hL8, hset_len]; exact HN6.out)
            have HA8 : Hid (hnth L8 m = ⟨X, D7, D2, D4⟩) := Lib.hid (by rw [← hL8, hset_at _ _ _ _ HM6.out, if_pos rfl])
            have HR8 : Hid ((⟨X, D7, D2, D4⟩ : Hdr).Ok) := Lib.hid ⟨HX.out, by show D7.size ≤ _; rw [HD7.out]; decide, by show D2.size ≤ _; rw [HD2.out]; decide, by show D4.size ≤ _; rw [HD4.out]; decide⟩
            have HK8 : Hid (∀ i, (hnth L8 i).Ok) := Lib.hid (by rw [← hL8]; exact ok_set HK6.out HM6.out HR8.out)
            rw [hL8] at HO8
            clear hL8
            obtain ⟨e0, e1, e2, e3, f⟩ := HO8.out.at HM8.out
            rw [HA8.out] at e0 e1 e2 e3
            go_wp2_with fail
            refine (rhdig_any ⟨X, D7, D2, D4⟩ W8 HR8.out).mono ?_
            rintro e w9 ⟨rfl, hb⟩
            have HO9 := Lib.hid (HO8.out.below hb)
            have HB9 : Hid (Below w.heap.size w w9) := Lib.hid (bnext HB8.out hb)
            obtain ⟨P9, hP9⟩ : ∃ P9, dgS ⟨X, D7, D2, D4⟩ = P9 := ⟨_, rfl⟩
            have HP9 : Hid (P9.size ≤ 1000000) := Lib.hid (by rw [← hP9]; exact dgS_size _)
            rw [hP9]
            clear hb e0 e1 e2 e3 f hP9
            go_wp2
            go_roundg (gk - 1)
            case rel => exact ⟨m + 1, L8, P9, by omega, rfl, by go_num, Lib.hid ⟨HB9.out, HO9.out⟩, Lib.hid ⟨HN8.out, HK8.out, HP9.out⟩⟩
            case measure => omega
      · have b0 : ¬ (m : Int) < N := by omega
        go_wp2
        go_ret
        have hl := HI.out.1
        exact ⟨_, L, rfl, by rw [hl]; have := HW.out.2; unfold OwnH at this; rw [hl] at this; exact this, by rw [hl]; exact HL70.out, HI.out.2.1, HW.out.1⟩
end Go.Proofs.YtpobhbdomldecaaGreatDoor
namespace Go.Proofs.YtpobhbdomldecaaGreatDoor
open Go.RowKit
set_option linter.unusedSimpArgs false
set_option linter.unusedVariables false
def abT : List ByteArray := [⟨#[97]⟩, ⟨#[98]⟩]
theorem abT_txts {w : World} {b : Nat} {t : TypeId} {fr : Nat × Nat} (h : w.heap[b]? = some (.cells #[.string ⟨#[97]⟩, .string ⟨#[98]⟩] t fr)) : Txts w (some ⟨b, 0, none⟩) abT := fun i hi => ⟨b, 0, rfl, by
  have hi : i < 2 := hi
  rw [block_cell h, Nat.zero_add]
  have : i = 0 ∨ i = 1 := by omega
  rcases this with rfl | rfl <;> rfl⟩
theorem abT_size : ∀ i, i < len abT → (tth abT i).size ≤ 1 := fun i hi => by
  have hi : i < 2 := hi
  have : i = 0 ∨ i = 1 := by omega
  rcases this with rfl | rfl <;> decide
theorem one_txts1 {w : World} {b : Nat} {t : TypeId} {fr : Nat × Nat} {s : ByteArray} (h : w.heap[b]? = some (.cells #[.string s] t fr)) : Txts w (some ⟨b, 0, none⟩) [s] := fun i hi => ⟨b, 0, rfl, by
  have hi : i < 1 := hi
  obtain rfl : i = 0 := by omega
  rw [block_cell h]; rfl⟩
theorem bods_nil : bodsOk [] = true := by decide
theorem bods_ab : bodsOk abT = true := by decide
theorem bods_65 : bodsOk [zerN 65] = false := by decide
theorem tree_nil : treeR [] = hashP noneT [] := by
  unfold treeR
  have : depN [] = 0 := by decide
  rw [this]
  rfl
theorem step_h (n : Int) (p : ByteArray) (m : Int) (q : ByteArray) : stepH (hAt n p) (hAt m q) = (decide (n < m) && decide (m - n = 1)) := rfl
theorem follow2 (R : Hdr → Hdr → Bool) (x y : Hdr) : followH R [x, y] = R x y := by
  cases h : R x y with
  | true => exact followH_yes (fun i hi h0 => by
      have hi : i < 2 := hi
      obtain rfl : i = 1 := by omega
      exact h)
  | false => exact followH_no (i := 1) (show 1 < 2 by decide) (by decide) h
theorem follow1 (R : Hdr → Hdr → Bool) (x : Hdr) : followH R [x] = true := followH_yes (fun i hi h0 => by
  have hi : i < 1 := hi
  omega)
theorem elOk2 (n m : Int) (p q : ByteArray) (hp : p.size = 32) (hq : q.size = 32) : elOk [hAt n p, hAt m q] = stepH (hAt n p) (hAt m q) := by
  unfold elOk laysH
  rw [follow2]
  simp [hAt_ok hp, hAt_ok hq, len]
theorem elOk1 (n : Int) (p : ByteArray) (hp : p.size = 32) : elOk [hAt n p] = true := by
  unfold elOk laysH
  rw [follow1]
  simp [hAt_ok hp, len]
theorem linked2 (n m : Int) (p q : ByteArray) (hp : p.size = 32) (hq : q.size = 32) : linkedH [hAt n p, hAt m q] = (stepH (hAt n p) (hAt m q) && decide (q = hdg (hAt n p))) := by
  unfold linkedH
  rw [elOk2 n m p q hp hq, follow2]
  rfl
theorem linked1 (n : Int) (p : ByteArray) (hp : p.size = 32) : linkedH [hAt n p] = true := by
  unfold linkedH
  rw [elOk1 n p hp, follow1]
  rfl
theorem hAt_Ok {n : Int} {p : ByteArray} (hn : U64i n) (hp : p.size = 32) : (hAt n p).Ok := ⟨hn, by show p.size ≤ _; rw [hp]; decide, by show zerT.size ≤ _; decide, by show zerT.size ≤ _; decide⟩
theorem oks2 {x y : Hdr} (hx : x.Ok) (hy : y.Ok) : ∀ i, (hnth [x, y] i).Ok := hoks (fun p hp => by
  rcases List.mem_cons.1 hp with rfl | hp
  · exact hx
  · rw [List.mem_singleton.1 hp]; exact hy)
theorem oks1 {x : Hdr} (hx : x.Ok) : ∀ i, (hnth [x] i).Ok := hoks (fun p hp => by
  rw [List.mem_singleton.1 hp]; exact hx)
set_option maxRecDepth 100000 in
set_option maxHeartbeats 8000000 in
theorem works23_any (B : Nat) (w : World) (ht : PT B w) : Calls Tryz.prog 23 #[] w fun e w' => e = .returned (.bool true) ∧ Below w.heap.size w w' := by
  have HT := Lib.hid ht
  clear ht
  go_enter Tryz.func23, Tryz.ntmps23
  go_wp2_with fail
  refine (dig23_any ⟨#[]⟩ w (by decide)).mono ?_
  rintro e w1 ⟨rfl, hb⟩
  rw [digT_nil]
  have HB1 := Lib.hid hb
  clear hb
  go_wp2_with fail
  refine (at23_any 5 zerT w1).mono ?_
  rintro e w2 ⟨rfl, hb⟩
  have HB2 : Hid (Below w.heap.size w w2) := Lib.hid (bnext HB1.out hb)
  clear hb
  have ok5 : ∀ n p, U64i n → p.size = 32 → (hAt n p).Ok := fun n p => hAt_Ok
  have HW := Lib.hid (fun w9 (h : PT B w9) => hw_yes B (hAt 5 zerT) w9 h (ok5 5 zerT ⟨by decide, by decide⟩ rfl) (hAt_ok rfl))
  have HG := Lib.hid (fun w9 (h : PT B w9) => hdig_any B (hAt 5 zerT) w9 h (ok5 5 zerT ⟨by decide, by decide⟩ rfl))
  unfold DgIs at HG
  have e1 : dgS (hAt 5 zerT) = hdg (hAt 5 zerT) := if_pos (hAt_ok rfl)
  have e2 : dgE (hAt 5 zerT) = 0 := if_pos (hAt_ok rfl)
  rw [e1, e2] at HG
  obtain ⟨d, hd⟩ : ∃ d, hdg (hAt 5 zerT) = d := ⟨_, rfl⟩
  have HDS : Hid (d.size = 32) := Lib.hid (by rw [← hd]; exact hdg_size _)
  have HDN : Hid (¬ zerT = d) := Lib.hid (fun h => five_dg (hd.trans h.symm))
  have HHASH : Hid (hashP hdrT [hbs (hAt 5 zerT)] = d) := Lib.hid hd
  have HBZ : Hid ((hbs (hAt 5 zerT)).size ≤ 1000000) := Lib.hid (Nat.le_trans (hbs_size (hAt_ok rfl)) (by decide))
  obtain ⟨S, hS⟩ : ∃ S, hbs (hAt 5 zerT) = S := ⟨_, rfl⟩
  rw [hS] at HW HHASH HBZ
  rw [hd] at HG
  have lift : ∀ {F : FuncId} (L : List Hdr) (v : Bool) (cs : Array Value), (L.flatMap Hdr.cells).toArray = cs → (∀ (a : Option Addr) (c : Nat) (w9 : World), PT B w9 → Hdrs w9 a L → Calls Tryz.prog F #[.slice a (len L) c] w9 fun e w' => e = .returned (.bool v) ∧ Below w9.heap.size w9 w') →
      ∀ (w9 : World) (b : Nat), PT B w9 → w9.heap[b]? = some (.cells cs 33 (0, 0)) → Calls Tryz.prog F #[.slice (some ⟨b, 0, none⟩) (len L) (len L)] w9 fun e w' => e = .returned (.bool v) ∧ Below w9.heap.size w9 w' :=
    fun L v cs hcs hh w9 b hp hb => hh _ _ w9 hp (Hdrs.block (by rw [hcs]; exact hb))
  have u5 : U64i 5 := ⟨by decide, by decide⟩
  have u6 : U64i 6 := ⟨by decide, by decide⟩
  have u7 : U64i 7 := ⟨by decide, by decide⟩
  have HF7 := Lib.hid (lift (F := 28) [hAt 5 zerT, hAt 7 zerT] true _ rfl (fun a c w9 hp hh => by
    have := refused_any B _ a c w9 hp hh (oks2 (ok5 5 zerT u5 rfl) (ok5 7 zerT u7 rfl)) (by decide)
    rw [elOk2 5 7 zerT zerT rfl rfl, step_h] at this
    exact this))
  have HF5 := Lib.hid (lift (F := 28) [hAt 5 zerT, hAt 5 zerT] true _ rfl (fun a c w9 hp hh => by
    have := refused_any B _ a c w9 hp hh (oks2 (ok5 5 zerT u5 rfl) (ok5 5 zerT u5 rfl)) (by decide)
    rw [elOk2 5 5 zerT zerT rfl rfl, step_h] at this
    exact this))
  have HL1 := Lib.hid (lift (F := 19) [hAt 5 zerT] true _ rfl (fun a c w9 hp hh => by
    have := hlinked_any B _ a c w9 hp hh (oks1 (ok5 5 zerT u5 rfl)) (by decide)
    rw [linked1 5 zerT rfl] at this
    exact this))
  have HL2 := Lib.hid (lift (F := 19) [hAt 5 zerT, hAt 6 zerT] false _ rfl (fun a c w9 hp hh => by
    have := hlinked_any B _ a c w9 hp hh (oks2 (ok5 5 zerT u5 rfl) (ok5 6 zerT u6 rfl)) (by decide)
    rw [linked2 5 6 zerT zerT rfl rfl, step_h, hd, decide_eq_false HDN.out] at this
    exact this))
  have HL3 := Lib.hid (lift (F := 19) [hAt 5 zerT, hAt 6 d] true _ rfl (fun a c w9 hp hh => by
    have := hlinked_any B _ a c w9 hp hh (oks2 (ok5 5 zerT u5 rfl) (ok5 6 d u6 HDS.out)) (show 2 ≤ 100000 by decide)
    rw [linked2 5 6 zerT d rfl HDS.out, step_h, hd, decide_eq_true rfl] at this
    exact this))
  have HR0 := Lib.hid (fun w9 (hp : PT B w9) => refused_any B [] none 0 w9 hp (Hdrs.nil _ _) (hoks (fun p hp => by cases hp)) (by decide))
  have el0 : (!elOk []) = true := by decide
  rw [el0] at HR0
  have HA7 := Lib.hid (fun w9 => at23_any 7 zerT w9)
  have HA5 := Lib.hid (fun w9 => at23_any 5 zerT w9)
  have HA6 := Lib.hid (fun w9 => at23_any 6 zerT w9)
  have HD6 := Lib.hid (fun w9 => at23_any 6 d w9)
  unfold hAt at HW HG HF7 HF5 HL1 HL2 HL3 HA7 HA5 HA6 HD6 ⊢
  obtain ⟨z, hz⟩ : ∃ z, zerT = z := ⟨_, rfl⟩
  rw [hz] at HW HG HF7 HF5 HL1 HL2 HL3 HA7 HA5 HA6 HD6 ⊢
  clear hz lift u5 u6 u7 ok5 e1 e2 hd hS HDN
  go_wp2_with fail
  obtain ⟨V, hV⟩ : ∃ V, w2.alloc (.cells #[.int .u64 5, .string z, .string z, .string z] 33) = V := ⟨_, rfl⟩
  obtain ⟨hb, hhb⟩ : ∃ hb, w2.heap.size = hb := ⟨_, rfl⟩
  have HBV : Hid (Below w.heap.size w V) := Lib.hid (by rw [← hV]; exact balloc HB2.out _)
  have HHB : Hid (V.heap[hb]? = some (.cells #[.int .u64 5, .string z, .string z, .string z] 33 (0, 0))) := Lib.hid (by rw [← hV, ← hhb]; exact heap_alloc_new _ _)
  rw [hV, hhb]
  clear hV hhb
  refine (HW.out V (HT.out.below HBV.out)).mono ?_
  rintro e w3 ⟨rfl, hb3⟩
  have HB3 : Hid (Below w.heap.size w w3) := Lib.hid (bnext HBV.out hb3)
  have HH3 := Lib.hid ((hb3.block _ (lt_of_block HHB.out)).trans HHB.out)
  have c : ∀ o, w3.cell? ⟨hb, o, none⟩ = _ := block_cell HH3.out
  clear hb3
  go_wp2_with fail
  refine (HG.out w3 (HT.out.below HB3.out)).mono ?_
  rintro e w4 ⟨rfl, hb4⟩
  have HB4 : Hid (Below w.heap.size w w4) := Lib.hid (bnext HB3.out hb4)
  have HH4 := Lib.hid ((hb4.block _ (lt_of_block HH3.out)).trans HH3.out)
  clear hb4 c el0
  go_wp2_with fail
  refine (hdig_any B Hdr.zero w4 (HT.out.below HB4.out) Hdr.zero_ok).mono ?_
  rintro e w5 ⟨rfl, hb5⟩
  have z1 : dgS Hdr.zero = ⟨#[]⟩ := if_neg (by decide)
  have z2 : dgE Hdr.zero = 2 := if_neg (by decide)
  rw [z1, z2]
  have HB5 : Hid (Below w.heap.size w w5) := Lib.hid (bnext HB4.out hb5)
  have HH5 := Lib.hid ((hb5.block _ (lt_of_block HH4.out)).trans HH4.out)
  clear hb5 z1 z2
  go_wp2_with fail
  refine (htxns_any [] none 0 w5 (by decide) (Txts.nil _ _) (fun i hi => absurd hi (by simp [len]))).mono ?_
  rintro e w6 ⟨rfl, hb6⟩
  have z1 : txS [] = hashP noneT [] := by rw [← tree_nil]; exact if_pos bods_nil
  have z2 : txE [] = 0 := if_pos bods_nil
  rw [z1, z2]
  obtain ⟨ta, hta⟩ : ∃ ta, hashP noneT [] = ta := ⟨_, rfl⟩
  have HTA := Lib.hid hta
  rw [hta]
  have HB6 : Hid (Below w.heap.size w w6) := Lib.hid (bnext HB5.out hb6)
  have HH6 := Lib.hid ((hb6.block _ (lt_of_block HH5.out)).trans HH5.out)
  clear hb6 z1 z2 hta
  go_wp2_with fail
  refine (htxns_any abT (some ⟨w6.heap.size, 0, none⟩) 2 _ (by decide) (abT_txts (heap_alloc_new _ _)) (fun i hi => Nat.le_trans (abT_size i hi) (by decide))).mono ?_
  rintro e w7 ⟨rfl, hb7⟩
  have z1 : txS abT = treeR abT := if_pos bods_ab
  have z2 : txE abT = 0 := if_pos bods_ab
  rw [z1, z2]
  obtain ⟨tb, htb⟩ : ∃ tb, treeR abT = tb := ⟨_, rfl⟩
  have HTB := Lib.hid htb
  rw [htb]
  have HX7 := Lib.hid (bnext (balloc (Below.refl w6.heap.size w6) _) hb7)
  have HB7 : Hid (Below w.heap.size w w7) := Lib.hid (bnext HB6.out HX7.out)
  have HH7 := Lib.hid ((HX7.out.block _ (lt_of_block HH6.out)).trans HH6.out)
  clear hb7 z1 z2 htb
  obtain ⟨W8, mk, hb8, cv⟩ := make_zb 65 65 rfl (by decide) w7
  obtain ⟨z65, hz65⟩ : ∃ z65, zerN 65 = z65 := ⟨_, rfl⟩
  have HZ65 : Hid (bodsOk [z65] = false ∧ z65.size = 65) := Lib.hid (by rw [← hz65]; exact ⟨bods_65, zerN_size 65⟩)
  rw [hz65] at cv
  have HX8 := Lib.hid hb8
  clear hz65 hb8
  go_wp2_with fail
  refine (htxns_any [z65] (some ⟨W8.heap.size, 0, none⟩) 1 _ (show 1 ≤ 65536 by decide) (one_txts1 (heap_alloc_new _ _)) (fun i hi => by
    have hi : i < 1 := hi
    obtain rfl : i = 0 := by omega
    show z65.size ≤ _
    rw [HZ65.out.2]; decide)).mono ?_
  rintro e w9 ⟨rfl, hb9⟩
  have z1 : txS [z65] = ⟨#[]⟩ := if_neg (by rw [HZ65.out.1]; decide)
  have z2 : txE [z65] = 2 := if_neg (by rw [HZ65.out.1]; decide)
  rw [z1, z2]
  have HX9 := Lib.hid (bnext (balloc HX8.out _) hb9)
  have HB9 : Hid (Below w.heap.size w w9) := Lib.hid (bnext HB7.out HX9.out)
  have HH9 := Lib.hid ((HX9.out.block _ (lt_of_block HH7.out)).trans HH7.out)
  clear hb9 z1 z2 mk cv
  go_wp2_with fail
  refine (build_any abT (some ⟨w9.heap.size, 0, none⟩) 2 _ (abT_txts (heap_alloc_new _ _)) (by decide) (fun i hi => Nat.le_trans (abT_size i hi) (by decide))).mono ?_
  rintro e w10 ⟨tp, rfl, htp, htr, hb10⟩
  have HX10 := Lib.hid (bnext (balloc (Below.refl w9.heap.size w9) _) hb10)
  have HB10 : Hid (Below w.heap.size w w10) := Lib.hid (bnext HB9.out HX10.out)
  have HH10 := Lib.hid ((HX10.out.block _ (lt_of_block HH9.out)).trans HH9.out)
  have HTR := Lib.hid htr
  clear hb10 htp htr
  go_wp2_with fail
  refine (hash1_any hdrT S w10 (by decide) (by decide) HBZ.out).mono ?_
  rintro e w11 ⟨rfl, hb11⟩
  rw [HHASH.out]
  have HB11 : Hid (Below w.heap.size w w11) := Lib.hid (bnext HB10.out hb11)
  have HH11 := Lib.hid ((hb11.block _ (lt_of_block HH10.out)).trans HH10.out)
  have HTR11 := Lib.hid (HTR.out.below hb11)
  have sd : (d.toList != d.toList) = false := by unfold bne; rw [str_beq, decide_eq_true rfl]; rfl
  clear hb11
  go_upto_region 12 with fail
  clear sd
  have c0 : w11.cell? ⟨hb, 0, none⟩ = some (.int .u64 5) := block_cell HH11.out 0
  have c1 : w11.cell? ⟨hb, 1, none⟩ = some (.string z) := block_cell HH11.out 1
  have c2 : w11.cell? ⟨hb, 2, none⟩ = some (.string z) := block_cell HH11.out 2
  have c3 : w11.cell? ⟨hb, 3, none⟩ = some (.string z) := block_cell HH11.out 3
  have sa : (ta.toList == ta.toList) = true := by rw [str_beq]; exact decide_eq_true rfl
  have sb : (tb.toList == tb.toList) = true := by rw [str_beq]; exact decide_eq_true rfl
  have HTW := Lib.hid (HT.out.below HB11.out)
  have HF7 := Lib.hid (fun w9 b (hw : Below w11.heap.size w11 w9) => HF7.out w9 b (HTW.out.below hw))
  have HF5 := Lib.hid (fun w9 b (hw : Below w11.heap.size w11 w9) => HF5.out w9 b (HTW.out.below hw))
  have HL1 := Lib.hid (fun w9 b (hw : Below w11.heap.size w11 w9) => HL1.out w9 b (HTW.out.below hw))
  have HL2 := Lib.hid (fun w9 b (hw : Below w11.heap.size w11 w9) => HL2.out w9 b (HTW.out.below hw))
  have HL3 := Lib.hid (fun w9 b (hw : Below w11.heap.size w11 w9) => HL3.out w9 b (HTW.out.below hw))
  have HR0 := Lib.hid (fun w9 (hw : Below w11.heap.size w11 w9) => HR0.out w9 (HTW.out.below hw))
  have HNO := Lib.hid (fun w9 => hash0_any noneT w9 (by decide) (by decide))
  rw [HTA.out] at HNO
  have HRT := Lib.hid (fun w9 (hw : Below w11.heap.size w11 w9) => (root_any abT tp w9 (HTR11.out.below hw)).mono (fun e w' hh => (⟨hh.1, by rw [hh.2]; exact Below.refl _ _⟩ : e = .returned (.string (treeR abT)) ∧ Below w9.heap.size w9 w')))
  rw [HTB.out] at HRT
  refine wp_region_all 1000 (none) (phis [fun u _ => u = (.bool true), fun u _ => u = (.bool true), fun u _ => u = (.agg #[.int .u64 5, .string z, .string z, .string z]), fun u _ => u = (.string z), fun u _ => u = (.agg #[.int .u64 7, .string z, .string z, .string z]), fun u w' => ∃ b, u = .slice (some ⟨b, 0, none⟩) 2 2 ∧ w'.heap[b]? = some (.cells #[.int .u64 5, .string z, .string z, .string z, .int .u64 7, .string z, .string z, .string z] 33 (0, 0)), fun u _ => u = (.bool true), fun u _ => u = (.bool true), fun u _ => u = (.bool true), fun u _ => u = (.agg #[.int .u64 5, .string z, .string z, .string z]), fun u _ => u = (.string z), fun u _ => u = (.agg #[.int .u64 5, .string z, .string z, .string z]), fun u w' => ∃ b, u = .slice (some ⟨b, 0, none⟩) 2 2 ∧ w'.heap[b]? = some (.cells #[.int .u64 5, .string z, .string z, .string z, .int .u64 5, .string z, .string z, .string z] 33 (0, 0)), fun u _ => u = (.bool true), fun u _ => u = (.bool true), fun u _ => u = (.bool true), fun u _ => u = (.agg #[.int .u64 5, .string z, .string z, .string z]), fun u w' => ∃ b, u = .slice (some ⟨b, 0, none⟩) 1 1 ∧ w'.heap[b]? = some (.cells #[.int .u64 5, .string z, .string z, .string z] 33 (0, 0)), fun u _ => u = (.bool true), fun u _ => u = (.bool true), fun u _ => u = (.bool true), fun u _ => u = (.agg #[.int .u64 5, .string z, .string z, .string z]), fun u _ => u = (.string z), fun u _ => u = (.agg #[.int .u64 6, .string z, .string z, .string z]), fun u w' => ∃ b, u = .slice (some ⟨b, 0, none⟩) 2 2 ∧ w'.heap[b]? = some (.cells #[.int .u64 5, .string z, .string z, .string z, .int .u64 6, .string z, .string z, .string z] 33 (0, 0)), fun u _ => u = (.bool false), fun u _ => u = (.bool true), fun u _ => u = (.bool true), fun u _ => u = (.bool true), fun u _ => u = (.agg #[.int .u64 5, .string z, .string z, .string z]), fun u _ => u = (.string d), fun u _ => u = (.agg #[.int .u64 6, .string d, .string z, .string z]), fun u w' => ∃ b, u = .slice (some ⟨b, 0, none⟩) 2 2 ∧ w'.heap[b]? = some (.cells #[.int .u64 5, .string z, .string z, .string z, .int .u64 6, .string d, .string z, .string z] 33 (0, 0)), fun u _ => u = (.bool true), fun u _ => u = (.bool true), fun u _ => u = (.bool true), fun u _ => u = (.int .i64 0), fun u _ => u = (.bool true), fun u _ => u = (.bool true), fun u _ => u = (.bool true), fun u _ => u = (.string ta), fun u _ => u = (.string ta), fun u _ => u = (.bool true), fun u _ => u = (.bool true), fun u _ => u = (.bool true), fun u _ => u = (.int .i64 0), fun u _ => u = (.bool true), fun u _ => u = (.bool true), fun u _ => u = (.bool true), fun u _ => u = (.string tb), fun u _ => u = (.pointer (some ⟨tp, 0, none⟩)), fun u _ => u = (.string tb), fun u _ => u = (.bool true), fun u _ => u = (.bool true), fun u _ => u = (.bool true), fun u _ => u = (.int .i64 2), fun u _ => u = (.bool true), fun u _ => u = (.bool true), fun u _ => u = (.bool true)]) rfl (by kernel_rfl) (mono_of ⟨mono_eq, mono_eq, mono_eq, mono_eq, mono_eq, ?m5, mono_eq, mono_eq, mono_eq, mono_eq, mono_eq, mono_eq, ?m12, mono_eq, mono_eq, mono_eq, mono_eq, ?m17, mono_eq, mono_eq, mono_eq, mono_eq, mono_eq, mono_eq, ?m24, mono_eq, mono_eq, mono_eq, mono_eq, mono_eq, mono_eq, mono_eq, ?m32, mono_eq, mono_eq, mono_eq, mono_eq, mono_eq, mono_eq, mono_eq, mono_eq, mono_eq, mono_eq, mono_eq, mono_eq, mono_eq, mono_eq, mono_eq, mono_eq, mono_eq, mono_eq, mono_eq, mono_eq, mono_eq, mono_eq, mono_eq, mono_eq, mono_eq, mono_eq, trivial⟩) (steps_of 59 ⟨?s0, ?s1, ?s2, ?s3, ?s4, ?s5, ?s6, ?s7, ?s8, ?s9, ?s10, ?s11, ?s12, ?s13, ?s14, ?s15, ?s16, ?s17, ?s18, ?s19, ?s20, ?s21, ?s22, ?s23, ?s24, ?s25, ?s26, ?s27, ?s28, ?s29, ?s30, ?s31, ?s32, ?s33, ?s34, ?s35, ?s36, ?s37, ?s38, ?s39, ?s40, ?s41, ?s42, ?s43, ?s44, ?s45, ?s46, ?s47, ?s48, ?s49, ?s50, ?s51, ?s52, ?s53, ?s54, ?s55, ?s56, ?s57, ?s58, trivial⟩) ?_
  case m5 =>
    exact ⟨fun u w1 w' h ⟨b, h1, hb⟩ => ⟨b, h1, ext_block h hb⟩, fun _ u w1 w' h ⟨b, h1, hb⟩ => ⟨b, h1, extB_block h (by simp) hb⟩⟩
  case m12 =>
    exact ⟨fun u w1 w' h ⟨b, h1, hb⟩ => ⟨b, h1, ext_block h hb⟩, fun _ u w1 w' h ⟨b, h1, hb⟩ => ⟨b, h1, extB_block h (by simp) hb⟩⟩
  case m17 =>
    exact ⟨fun u w1 w' h ⟨b, h1, hb⟩ => ⟨b, h1, ext_block h hb⟩, fun _ u w1 w' h ⟨b, h1, hb⟩ => ⟨b, h1, extB_block h (by simp) hb⟩⟩
  case m24 =>
    exact ⟨fun u w1 w' h ⟨b, h1, hb⟩ => ⟨b, h1, ext_block h hb⟩, fun _ u w1 w' h ⟨b, h1, hb⟩ => ⟨b, h1, extB_block h (by simp) hb⟩⟩
  case m32 =>
    exact ⟨fun u w1 w' h ⟨b, h1, hb⟩ => ⟨b, h1, ext_block h hb⟩, fun _ u w1 w' h ⟨b, h1, hb⟩ => ⟨b, h1, extB_block h (by simp) hb⟩⟩
  case s0 =>
    refine step_wp (fun av wv hE hS hO hD => ?_)
    refine ⟨rfl, ?_⟩
    refine wp_of_call (v := .bool true) (by simp [go_sem]; rfl) (HR0.out wv (of_drew hE)) (fun w2 hb => ⟨_, rfl, es_of_ext hb, rfl⟩)
  case s1 =>
    refine step_val (v := (.bool true)) (fun av wv hE hS hO hD => ?_) (fun _ => rfl)
    have d81 : av.eval (.tmp 81) = (.bool true) := hD.1 rfl _ rfl
    have f81 := (ev_form av 81).symm.trans d81
    refine ⟨rfl, ?_⟩
    simp [go_sem, f81, sa, sb]
  case s2 =>
    refine step_val (v := (.agg #[.int .u64 5, .string z, .string z, .string z])) (fun av wv hE hS hO hD => ?_) (fun _ => rfl)
    have h2 : av.eval (.tmp 2) = (.pointer (some ⟨hb, 0, none⟩)) := hO.2.2 2 rfl
    have f2 := (ev_form av 2).symm.trans h2
    have d82 : av.eval (.tmp 82) = (.bool true) := hD.1 rfl _ rfl
    have f82 := (ev_form av 82).symm.trans d82
    have c0 := extB_cell hE (by simp) c0
    have c1 := extB_cell hE (by simp) c1
    have c2 := extB_cell hE (by simp) c2
    have c3 := extB_cell hE (by simp) c3
    refine ⟨(wanted_of (d := 82) (b := true) (want := true) rfl rfl rfl d82), ?_⟩
    simp [go_sem, f2, f82, c0, c1, c2, c3, sa, sb]
  case s3 =>
    refine step_val (v := (.string z)) (fun av wv hE hS hO hD => ?_) (fun _ => rfl)
    have h1 : av.eval (.tmp 1) = (.string z) := hO.2.2 1 rfl
    have f1 := (ev_form av 1).symm.trans h1
    have d82 : av.eval (.tmp 82) = (.bool true) := hD.1 rfl _ rfl
    have f82 := (ev_form av 82).symm.trans d82
    refine ⟨(wanted_of (d := 82) (b := true) (want := true) rfl rfl rfl d82), ?_⟩
    simp [go_sem, f1, f82, sa, sb]
  case s4 =>
    refine step_wp (fun av wv hE hS hO hD => ?_)
    have d84 : av.eval (.tmp 84) = (.string z) := hD.1 rfl _ rfl
    have f84 := (ev_form av 84).symm.trans d84
    have d82 : av.eval (.tmp 82) = (.bool true) := hD.2.1 rfl _ rfl
    have f82 := (ev_form av 82).symm.trans d82
    refine ⟨(wanted_of (d := 82) (b := true) (want := true) rfl rfl rfl d82), ?_⟩
    refine wp_of_call (v := .agg #[.int .u64 7, .string z, .string z, .string z]) (by simp [go_sem, f84]) (HA7.out wv) (fun w2 hb => ⟨_, rfl, es_of_ext hb, rfl⟩)
  case s5 =>
    refine step_wp (fun av wv hE hS hO hD => ?_)
    have d83 : av.eval (.tmp 83) = (.agg #[.int .u64 5, .string z, .string z, .string z]) := hD.1 rfl _ rfl
    have f83 := (ev_form av 83).symm.trans d83
    have d85 : av.eval (.tmp 85) = (.agg #[.int .u64 7, .string z, .string z, .string z]) := hD.2.1 rfl _ rfl
    have f85 := (ev_form av 85).symm.trans d85
    have d82 : av.eval (.tmp 82) = (.bool true) := hD.2.2.1 rfl _ rfl
    have f82 := (ev_form av 82).symm.trans d82
    refine ⟨(wanted_of (d := 82) (b := true) (want := true) rfl rfl rfl d82), ?_⟩
    exact wp_of_run (v := .slice (some ⟨wv.heap.size, 0, none⟩) 2 2) (w' := wv.alloc (.cells #[.int .u64 5, .string z, .string z, .string z, .int .u64 7, .string z, .string z, .string z] 33)) (by simp [go_sem, f83, f85]) ⟨_, rfl, es_of_ext (balloc (Ext_refl _) _), wv.heap.size, rfl, heap_alloc_new _ _⟩
  case s6 =>
    refine step_wp (fun av wv hE hS hO hD => ?_)
    have d86 : (fun u w' => ∃ b, u = .slice (some ⟨b, 0, none⟩) 2 2 ∧ w'.heap[b]? = some (.cells #[.int .u64 5, .string z, .string z, .string z, .int .u64 7, .string z, .string z, .string z] 33 (0, 0))) (av.eval (.tmp 86)) wv := hD.1 rfl _ rfl
    have d82 : av.eval (.tmp 82) = (.bool true) := hD.2.2.1 rfl _ rfl
    have f82 := (ev_form av 82).symm.trans d82
    refine ⟨(wanted_of (d := 82) (b := true) (want := true) rfl rfl rfl d82), ?_⟩
    obtain ⟨bq, hq, hcq⟩ := d86
    have fq := (ev_form av 86).symm.trans hq
    refine wp_of_call (v := .bool true) (by simp [go_sem, fq]; rfl) (HF7.out wv bq (of_drew hE) hcq) (fun w2 hb => ⟨_, rfl, es_of_ext hb, rfl⟩)
  case s7 =>
    refine step_val (v := (.bool true)) (fun av wv hE hS hO hD => ?_) (fun _ => rfl)
    have d82 : av.eval (.tmp 82) = (.bool true) := hD.1 rfl _ rfl
    have f82 := (ev_form av 82).symm.trans d82
    have d87 : av.eval (.tmp 87) = (.bool true) := hD.2.1 rfl _ rfl
    have f87 := (ev_form av 87).symm.trans d87
    refine ⟨rfl, ?_⟩
    simp [go_sem, f82, f87, sa, sb]
  case s8 =>
    refine step_val (v := (.bool true)) (fun av wv hE hS hO hD => ?_) (fun _ => rfl)
    have d88 : av.eval (.tmp 88) = (.bool true) := hD.1 rfl _ rfl
    have f88 := (ev_form av 88).symm.trans d88
    refine ⟨rfl, ?_⟩
    simp [go_sem, f88, sa, sb]
  case s9 =>
    refine step_val (v := (.agg #[.int .u64 5, .string z, .string z, .string z])) (fun av wv hE hS hO hD => ?_) (fun _ => rfl)
    have h2 : av.eval (.tmp 2) = (.pointer (some ⟨hb, 0, none⟩)) := hO.2.2 2 rfl
    have f2 := (ev_form av 2).symm.trans h2
    have d89 : av.eval (.tmp 89) = (.bool true) := hD.1 rfl _ rfl
    have f89 := (ev_form av 89).symm.trans d89
    have c0 := extB_cell hE (by simp) c0
    have c1 := extB_cell hE (by simp) c1
    have c2 := extB_cell hE (by simp) c2
    have c3 := extB_cell hE (by simp) c3
    refine ⟨(wanted_of (d := 89) (b := true) (want := true) rfl rfl rfl d89), ?_⟩
    simp [go_sem, f2, f89, c0, c1, c2, c3, sa, sb]
  case s10 =>
    refine step_val (v := (.string z)) (fun av wv hE hS hO hD => ?_) (fun _ => rfl)
    have h1 : av.eval (.tmp 1) = (.string z) := hO.2.2 1 rfl
    have f1 := (ev_form av 1).symm.trans h1
    have d89 : av.eval (.tmp 89) = (.bool true) := hD.1 rfl _ rfl
    have f89 := (ev_form av 89).symm.trans d89
    refine ⟨(wanted_of (d := 89) (b := true) (want := true) rfl rfl rfl d89), ?_⟩
    simp [go_sem, f1, f89, sa, sb]
  case s11 =>
    refine step_wp (fun av wv hE hS hO hD => ?_)
    have d91 : av.eval (.tmp 91) = (.string z) := hD.1 rfl _ rfl
    have f91 := (ev_form av 91).symm.trans d91
    have d89 : av.eval (.tmp 89) = (.bool true) := hD.2.1 rfl _ rfl
    have f89 := (ev_form av 89).symm.trans d89
    refine ⟨(wanted_of (d := 89) (b := true) (want := true) rfl rfl rfl d89), ?_⟩
    refine wp_of_call (v := .agg #[.int .u64 5, .string z, .string z, .string z]) (by simp [go_sem, f91]) (HA5.out wv) (fun w2 hb => ⟨_, rfl, es_of_ext hb, rfl⟩)
  case s12 =>
    refine step_wp (fun av wv hE hS hO hD => ?_)
    have d90 : av.eval (.tmp 90) = (.agg #[.int .u64 5, .string z, .string z, .string z]) := hD.1 rfl _ rfl
    have f90 := (ev_form av 90).symm.trans d90
    have d92 : av.eval (.tmp 92) = (.agg #[.int .u64 5, .string z, .string z, .string z]) := hD.2.1 rfl _ rfl
    have f92 := (ev_form av 92).symm.trans d92
    have d89 : av.eval (.tmp 89) = (.bool true) := hD.2.2.1 rfl _ rfl
    have f89 := (ev_form av 89).symm.trans d89
    refine ⟨(wanted_of (d := 89) (b := true) (want := true) rfl rfl rfl d89), ?_⟩
    exact wp_of_run (v := .slice (some ⟨wv.heap.size, 0, none⟩) 2 2) (w' := wv.alloc (.cells #[.int .u64 5, .string z, .string z, .string z, .int .u64 5, .string z, .string z, .string z] 33)) (by simp [go_sem, f90, f92]) ⟨_, rfl, es_of_ext (balloc (Ext_refl _) _), wv.heap.size, rfl, heap_alloc_new _ _⟩
  case s13 =>
    refine step_wp (fun av wv hE hS hO hD => ?_)
    have d93 : (fun u w' => ∃ b, u = .slice (some ⟨b, 0, none⟩) 2 2 ∧ w'.heap[b]? = some (.cells #[.int .u64 5, .string z, .string z, .string z, .int .u64 5, .string z, .string z, .string z] 33 (0, 0))) (av.eval (.tmp 93)) wv := hD.1 rfl _ rfl
    have d89 : av.eval (.tmp 89) = (.bool true) := hD.2.2.1 rfl _ rfl
    have f89 := (ev_form av 89).symm.trans d89
    refine ⟨(wanted_of (d := 89) (b := true) (want := true) rfl rfl rfl d89), ?_⟩
    obtain ⟨bq, hq, hcq⟩ := d93
    have fq := (ev_form av 93).symm.trans hq
    refine wp_of_call (v := .bool true) (by simp [go_sem, fq]; rfl) (HF5.out wv bq (of_drew hE) hcq) (fun w2 hb => ⟨_, rfl, es_of_ext hb, rfl⟩)
  case s14 =>
    refine step_val (v := (.bool true)) (fun av wv hE hS hO hD => ?_) (fun _ => rfl)
    have d89 : av.eval (.tmp 89) = (.bool true) := hD.1 rfl _ rfl
    have f89 := (ev_form av 89).symm.trans d89
    have d94 : av.eval (.tmp 94) = (.bool true) := hD.2.1 rfl _ rfl
    have f94 := (ev_form av 94).symm.trans d94
    refine ⟨rfl, ?_⟩
    simp [go_sem, f89, f94, sa, sb]
  case s15 =>
    refine step_val (v := (.bool true)) (fun av wv hE hS hO hD => ?_) (fun _ => rfl)
    have d95 : av.eval (.tmp 95) = (.bool true) := hD.1 rfl _ rfl
    have f95 := (ev_form av 95).symm.trans d95
    refine ⟨rfl, ?_⟩
    simp [go_sem, f95, sa, sb]
  case s16 =>
    refine step_val (v := (.agg #[.int .u64 5, .string z, .string z, .string z])) (fun av wv hE hS hO hD => ?_) (fun _ => rfl)
    have h2 : av.eval (.tmp 2) = (.pointer (some ⟨hb, 0, none⟩)) := hO.2.2 2 rfl
    have f2 := (ev_form av 2).symm.trans h2
    have d96 : av.eval (.tmp 96) = (.bool true) := hD.1 rfl _ rfl
    have f96 := (ev_form av 96).symm.trans d96
    have c0 := extB_cell hE (by simp) c0
    have c1 := extB_cell hE (by simp) c1
    have c2 := extB_cell hE (by simp) c2
    have c3 := extB_cell hE (by simp) c3
    refine ⟨(wanted_of (d := 96) (b := true) (want := true) rfl rfl rfl d96), ?_⟩
    simp [go_sem, f2, f96, c0, c1, c2, c3, sa, sb]
  case s17 =>
    refine step_wp (fun av wv hE hS hO hD => ?_)
    have d97 : av.eval (.tmp 97) = (.agg #[.int .u64 5, .string z, .string z, .string z]) := hD.1 rfl _ rfl
    have f97 := (ev_form av 97).symm.trans d97
    have d96 : av.eval (.tmp 96) = (.bool true) := hD.2.1 rfl _ rfl
    have f96 := (ev_form av 96).symm.trans d96
    refine ⟨(wanted_of (d := 96) (b := true) (want := true) rfl rfl rfl d96), ?_⟩
    exact wp_of_run (v := .slice (some ⟨wv.heap.size, 0, none⟩) 1 1) (w' := wv.alloc (.cells #[.int .u64 5, .string z, .string z, .string z] 33)) (by simp [go_sem, f97]) ⟨_, rfl, es_of_ext (balloc (Ext_refl _) _), wv.heap.size, rfl, heap_alloc_new _ _⟩
  case s18 =>
    refine step_wp (fun av wv hE hS hO hD => ?_)
    have d98 : (fun u w' => ∃ b, u = .slice (some ⟨b, 0, none⟩) 1 1 ∧ w'.heap[b]? = some (.cells #[.int .u64 5, .string z, .string z, .string z] 33 (0, 0))) (av.eval (.tmp 98)) wv := hD.1 rfl _ rfl
    have d96 : av.eval (.tmp 96) = (.bool true) := hD.2.1 rfl _ rfl
    have f96 := (ev_form av 96).symm.trans d96
    refine ⟨(wanted_of (d := 96) (b := true) (want := true) rfl rfl rfl d96), ?_⟩
    obtain ⟨bq, hq, hcq⟩ := d98
    have fq := (ev_form av 98).symm.trans hq
    refine wp_of_call (v := .bool true) (by simp [go_sem, fq]; rfl) (HL1.out wv bq (of_drew hE) hcq) (fun w2 hb => ⟨_, rfl, es_of_ext hb, rfl⟩)
  case s19 =>
    refine step_val (v := (.bool true)) (fun av wv hE hS hO hD => ?_) (fun _ => rfl)
    have d96 : av.eval (.tmp 96) = (.bool true) := hD.1 rfl _ rfl
    have f96 := (ev_form av 96).symm.trans d96
    have d99 : av.eval (.tmp 99) = (.bool true) := hD.2.1 rfl _ rfl
    have f99 := (ev_form av 99).symm.trans d99
    refine ⟨rfl, ?_⟩
    simp [go_sem, f96, f99, sa, sb]
  case s20 =>
    refine step_val (v := (.bool true)) (fun av wv hE hS hO hD => ?_) (fun _ => rfl)
    have d100 : av.eval (.tmp 100) = (.bool true) := hD.1 rfl _ rfl
    have f100 := (ev_form av 100).symm.trans d100
    refine ⟨rfl, ?_⟩
    simp [go_sem, f100, sa, sb]
  case s21 =>
    refine step_val (v := (.agg #[.int .u64 5, .string z, .string z, .string z])) (fun av wv hE hS hO hD => ?_) (fun _ => rfl)
    have h2 : av.eval (.tmp 2) = (.pointer (some ⟨hb, 0, none⟩)) := hO.2.2 2 rfl
    have f2 := (ev_form av 2).symm.trans h2
    have d101 : av.eval (.tmp 101) = (.bool true) := hD.1 rfl _ rfl
    have f101 := (ev_form av 101).symm.trans d101
    have c0 := extB_cell hE (by simp) c0
    have c1 := extB_cell hE (by simp) c1
    have c2 := extB_cell hE (by simp) c2
    have c3 := extB_cell hE (by simp) c3
    refine ⟨(wanted_of (d := 101) (b := true) (want := true) rfl rfl rfl d101), ?_⟩
    simp [go_sem, f2, f101, c0, c1, c2, c3, sa, sb]
  case s22 =>
    refine step_val (v := (.string z)) (fun av wv hE hS hO hD => ?_) (fun _ => rfl)
    have h1 : av.eval (.tmp 1) = (.string z) := hO.2.2 1 rfl
    have f1 := (ev_form av 1).symm.trans h1
    have d101 : av.eval (.tmp 101) = (.bool true) := hD.1 rfl _ rfl
    have f101 := (ev_form av 101).symm.trans d101
    refine ⟨(wanted_of (d := 101) (b := true) (want := true) rfl rfl rfl d101), ?_⟩
    simp [go_sem, f1, f101, sa, sb]
  case s23 =>
    refine step_wp (fun av wv hE hS hO hD => ?_)
    have d103 : av.eval (.tmp 103) = (.string z) := hD.1 rfl _ rfl
    have f103 := (ev_form av 103).symm.trans d103
    have d101 : av.eval (.tmp 101) = (.bool true) := hD.2.1 rfl _ rfl
    have f101 := (ev_form av 101).symm.trans d101
    refine ⟨(wanted_of (d := 101) (b := true) (want := true) rfl rfl rfl d101), ?_⟩
    refine wp_of_call (v := .agg #[.int .u64 6, .string z, .string z, .string z]) (by simp [go_sem, f103]) (HA6.out wv) (fun w2 hb => ⟨_, rfl, es_of_ext hb, rfl⟩)
  case s24 =>
    refine step_wp (fun av wv hE hS hO hD => ?_)
    have d102 : av.eval (.tmp 102) = (.agg #[.int .u64 5, .string z, .string z, .string z]) := hD.1 rfl _ rfl
    have f102 := (ev_form av 102).symm.trans d102
    have d104 : av.eval (.tmp 104) = (.agg #[.int .u64 6, .string z, .string z, .string z]) := hD.2.1 rfl _ rfl
    have f104 := (ev_form av 104).symm.trans d104
    have d101 : av.eval (.tmp 101) = (.bool true) := hD.2.2.1 rfl _ rfl
    have f101 := (ev_form av 101).symm.trans d101
    refine ⟨(wanted_of (d := 101) (b := true) (want := true) rfl rfl rfl d101), ?_⟩
    exact wp_of_run (v := .slice (some ⟨wv.heap.size, 0, none⟩) 2 2) (w' := wv.alloc (.cells #[.int .u64 5, .string z, .string z, .string z, .int .u64 6, .string z, .string z, .string z] 33)) (by simp [go_sem, f102, f104]) ⟨_, rfl, es_of_ext (balloc (Ext_refl _) _), wv.heap.size, rfl, heap_alloc_new _ _⟩
  case s25 =>
    refine step_wp (fun av wv hE hS hO hD => ?_)
    have d105 : (fun u w' => ∃ b, u = .slice (some ⟨b, 0, none⟩) 2 2 ∧ w'.heap[b]? = some (.cells #[.int .u64 5, .string z, .string z, .string z, .int .u64 6, .string z, .string z, .string z] 33 (0, 0))) (av.eval (.tmp 105)) wv := hD.1 rfl _ rfl
    have d101 : av.eval (.tmp 101) = (.bool true) := hD.2.2.1 rfl _ rfl
    have f101 := (ev_form av 101).symm.trans d101
    refine ⟨(wanted_of (d := 101) (b := true) (want := true) rfl rfl rfl d101), ?_⟩
    obtain ⟨bq, hq, hcq⟩ := d105
    have fq := (ev_form av 105).symm.trans hq
    refine wp_of_call (v := .bool false) (by simp [go_sem, fq]; rfl) (HL2.out wv bq (of_drew hE) hcq) (fun w2 hb => ⟨_, rfl, es_of_ext hb, rfl⟩)
  case s26 =>
    refine step_val (v := (.bool true)) (fun av wv hE hS hO hD => ?_) (fun _ => rfl)
    have d106 : av.eval (.tmp 106) = (.bool false) := hD.1 rfl _ rfl
    have f106 := (ev_form av 106).symm.trans d106
    have d101 : av.eval (.tmp 101) = (.bool true) := hD.2.1 rfl _ rfl
    have f101 := (ev_form av 101).symm.trans d101
    refine ⟨(wanted_of (d := 101) (b := true) (want := true) rfl rfl rfl d101), ?_⟩
    simp [go_sem, f106, f101, sa, sb]
  case s27 =>
    refine step_val (v := (.bool true)) (fun av wv hE hS hO hD => ?_) (fun _ => rfl)
    have d101 : av.eval (.tmp 101) = (.bool true) := hD.1 rfl _ rfl
    have f101 := (ev_form av 101).symm.trans d101
    have d107 : av.eval (.tmp 107) = (.bool true) := hD.2.1 rfl _ rfl
    have f107 := (ev_form av 107).symm.trans d107
    refine ⟨rfl, ?_⟩
    simp [go_sem, f101, f107, sa, sb]
  case s28 =>
    refine step_val (v := (.bool true)) (fun av wv hE hS hO hD => ?_) (fun _ => rfl)
    have d108 : av.eval (.tmp 108) = (.bool true) := hD.1 rfl _ rfl
    have f108 := (ev_form av 108).symm.trans d108
    refine ⟨rfl, ?_⟩
    simp [go_sem, f108, sa, sb]
  case s29 =>
    refine step_val (v := (.agg #[.int .u64 5, .string z, .string z, .string z])) (fun av wv hE hS hO hD => ?_) (fun _ => rfl)
    have h2 : av.eval (.tmp 2) = (.pointer (some ⟨hb, 0, none⟩)) := hO.2.2 2 rfl
    have f2 := (ev_form av 2).symm.trans h2
    have d109 : av.eval (.tmp 109) = (.bool true) := hD.1 rfl _ rfl
    have f109 := (ev_form av 109).symm.trans d109
    have c0 := extB_cell hE (by simp) c0
    have c1 := extB_cell hE (by simp) c1
    have c2 := extB_cell hE (by simp) c2
    have c3 := extB_cell hE (by simp) c3
    refine ⟨(wanted_of (d := 109) (b := true) (want := true) rfl rfl rfl d109), ?_⟩
    simp [go_sem, f2, f109, c0, c1, c2, c3, sa, sb]
  case s30 =>
    refine step_val (v := (.string d)) (fun av wv hE hS hO hD => ?_) (fun _ => rfl)
    have h5 : av.eval (.tmp 5) = (.string d) := hO.2.2 5 rfl
    have f5 := (ev_form av 5).symm.trans h5
    have d109 : av.eval (.tmp 109) = (.bool true) := hD.1 rfl _ rfl
    have f109 := (ev_form av 109).symm.trans d109
    refine ⟨(wanted_of (d := 109) (b := true) (want := true) rfl rfl rfl d109), ?_⟩
    simp [go_sem, f5, f109, sa, sb]
  case s31 =>
    refine step_wp (fun av wv hE hS hO hD => ?_)
    have d111 : av.eval (.tmp 111) = (.string d) := hD.1 rfl _ rfl
    have f111 := (ev_form av 111).symm.trans d111
    have d109 : av.eval (.tmp 109) = (.bool true) := hD.2.1 rfl _ rfl
    have f109 := (ev_form av 109).symm.trans d109
    refine ⟨(wanted_of (d := 109) (b := true) (want := true) rfl rfl rfl d109), ?_⟩
    refine wp_of_call (v := .agg #[.int .u64 6, .string d, .string z, .string z]) (by simp [go_sem, f111]) (HD6.out wv) (fun w2 hb => ⟨_, rfl, es_of_ext hb, rfl⟩)
  case s32 =>
    refine step_wp (fun av wv hE hS hO hD => ?_)
    have d110 : av.eval (.tmp 110) = (.agg #[.int .u64 5, .string z, .string z, .string z]) := hD.1 rfl _ rfl
    have f110 := (ev_form av 110).symm.trans d110
    have d112 : av.eval (.tmp 112) = (.agg #[.int .u64 6, .string d, .string z, .string z]) := hD.2.1 rfl _ rfl
    have f112 := (ev_form av 112).symm.trans d112
    have d109 : av.eval (.tmp 109) = (.bool true) := hD.2.2.1 rfl _ rfl
    have f109 := (ev_form av 109).symm.trans d109
    refine ⟨(wanted_of (d := 109) (b := true) (want := true) rfl rfl rfl d109), ?_⟩
    exact wp_of_run (v := .slice (some ⟨wv.heap.size, 0, none⟩) 2 2) (w' := wv.alloc (.cells #[.int .u64 5, .string z, .string z, .string z, .int .u64 6, .string d, .string z, .string z] 33)) (by simp [go_sem, f110, f112]) ⟨_, rfl, es_of_ext (balloc (Ext_refl _) _), wv.heap.size, rfl, heap_alloc_new _ _⟩
  case s33 =>
    refine step_wp (fun av wv hE hS hO hD => ?_)
    have d113 : (fun u w' => ∃ b, u = .slice (some ⟨b, 0, none⟩) 2 2 ∧ w'.heap[b]? = some (.cells #[.int .u64 5, .string z, .string z, .string z, .int .u64 6, .string d, .string z, .string z] 33 (0, 0))) (av.eval (.tmp 113)) wv := hD.1 rfl _ rfl
    have d109 : av.eval (.tmp 109) = (.bool true) := hD.2.2.1 rfl _ rfl
    have f109 := (ev_form av 109).symm.trans d109
    refine ⟨(wanted_of (d := 109) (b := true) (want := true) rfl rfl rfl d109), ?_⟩
    obtain ⟨bq, hq, hcq⟩ := d113
    have fq := (ev_form av 113).symm.trans hq
    refine wp_of_call (v := .bool true) (by simp [go_sem, fq]; rfl) (HL3.out wv bq (of_drew hE) hcq) (fun w2 hb => ⟨_, rfl, es_of_ext hb, rfl⟩)
  case s34 =>
    refine step_val (v := (.bool true)) (fun av wv hE hS hO hD => ?_) (fun _ => rfl)
    have d109 : av.eval (.tmp 109) = (.bool true) := hD.1 rfl _ rfl
    have f109 := (ev_form av 109).symm.trans d109
    have d114 : av.eval (.tmp 114) = (.bool true) := hD.2.1 rfl _ rfl
    have f114 := (ev_form av 114).symm.trans d114
    refine ⟨rfl, ?_⟩
    simp [go_sem, f109, f114, sa, sb]
  case s35 =>
    refine step_val (v := (.bool true)) (fun av wv hE hS hO hD => ?_) (fun _ => rfl)
    have d115 : av.eval (.tmp 115) = (.bool true) := hD.1 rfl _ rfl
    have f115 := (ev_form av 115).symm.trans d115
    refine ⟨rfl, ?_⟩
    simp [go_sem, f115, sa, sb]
  case s36 =>
    refine step_val (v := (.int .i64 0)) (fun av wv hE hS hO hD => ?_) (fun _ => rfl)
    have h10 : av.eval (.tmp 10) = (.int .i64 0) := hO.2.2 10 rfl
    have f10 := (ev_form av 10).symm.trans h10
    have d116 : av.eval (.tmp 116) = (.bool true) := hD.1 rfl _ rfl
    have f116 := (ev_form av 116).symm.trans d116
    refine ⟨(wanted_of (d := 116) (b := true) (want := true) rfl rfl rfl d116), ?_⟩
    simp [go_sem, f10, f116, sa, sb]
  case s37 =>
    refine step_val (v := (.bool true)) (fun av wv hE hS hO hD => ?_) (fun _ => rfl)
    have d117 : av.eval (.tmp 117) = (.int .i64 0) := hD.1 rfl _ rfl
    have f117 := (ev_form av 117).symm.trans d117
    have d116 : av.eval (.tmp 116) = (.bool true) := hD.2.1 rfl _ rfl
    have f116 := (ev_form av 116).symm.trans d116
    refine ⟨(wanted_of (d := 116) (b := true) (want := true) rfl rfl rfl d116), ?_⟩
    simp [go_sem, f117, f116, sa, sb]
  case s38 =>
    refine step_val (v := (.bool true)) (fun av wv hE hS hO hD => ?_) (fun _ => rfl)
    have d116 : av.eval (.tmp 116) = (.bool true) := hD.1 rfl _ rfl
    have f116 := (ev_form av 116).symm.trans d116
    have d118 : av.eval (.tmp 118) = (.bool true) := hD.2.1 rfl _ rfl
    have f118 := (ev_form av 118).symm.trans d118
    refine ⟨rfl, ?_⟩
    simp [go_sem, f116, f118, sa, sb]
  case s39 =>
    refine step_val (v := (.bool true)) (fun av wv hE hS hO hD => ?_) (fun _ => rfl)
    have d119 : av.eval (.tmp 119) = (.bool true) := hD.1 rfl _ rfl
    have f119 := (ev_form av 119).symm.trans d119
    refine ⟨rfl, ?_⟩
    simp [go_sem, f119, sa, sb]
  case s40 =>
    refine step_val (v := (.string ta)) (fun av wv hE hS hO hD => ?_) (fun _ => rfl)
    have h9 : av.eval (.tmp 9) = (.string ta) := hO.2.2 9 rfl
    have f9 := (ev_form av 9).symm.trans h9
    have d120 : av.eval (.tmp 120) = (.bool true) := hD.1 rfl _ rfl
    have f120 := (ev_form av 120).symm.trans d120
    refine ⟨(wanted_of (d := 120) (b := true) (want := true) rfl rfl rfl d120), ?_⟩
    simp [go_sem, f9, f120, sa, sb]
  case s41 =>
    refine step_wp (fun av wv hE hS hO hD => ?_)
    have d120 : av.eval (.tmp 120) = (.bool true) := hD.1 rfl _ rfl
    have f120 := (ev_form av 120).symm.trans d120
    refine ⟨(wanted_of (d := 120) (b := true) (want := true) rfl rfl rfl d120), ?_⟩
    refine wp_of_call (v := .string ta) (by simp [go_sem]; rfl) (HNO.out wv) (fun w2 hb => ⟨_, rfl, es_of_ext hb, rfl⟩)
  case s42 =>
    refine step_val (v := (.bool true)) (fun av wv hE hS hO hD => ?_) (fun _ => rfl)
    have d121 : av.eval (.tmp 121) = (.string ta) := hD.1 rfl _ rfl
    have f121 := (ev_form av 121).symm.trans d121
    have d122 : av.eval (.tmp 122) = (.string ta) := hD.2.1 rfl _ rfl
    have f122 := (ev_form av 122).symm.trans d122
    have d120 : av.eval (.tmp 120) = (.bool true) := hD.2.2.1 rfl _ rfl
    have f120 := (ev_form av 120).symm.trans d120
    refine ⟨(wanted_of (d := 120) (b := true) (want := true) rfl rfl rfl d120), ?_⟩
    simp [go_sem, f121, f122, f120, sa, sb]
  case s43 =>
    refine step_val (v := (.bool true)) (fun av wv hE hS hO hD => ?_) (fun _ => rfl)
    have d120 : av.eval (.tmp 120) = (.bool true) := hD.1 rfl _ rfl
    have f120 := (ev_form av 120).symm.trans d120
    have d123 : av.eval (.tmp 123) = (.bool true) := hD.2.1 rfl _ rfl
    have f123 := (ev_form av 123).symm.trans d123
    refine ⟨rfl, ?_⟩
    simp [go_sem, f120, f123, sa, sb]
  case s44 =>
    refine step_val (v := (.bool true)) (fun av wv hE hS hO hD => ?_) (fun _ => rfl)
    have d124 : av.eval (.tmp 124) = (.bool true) := hD.1 rfl _ rfl
    have f124 := (ev_form av 124).symm.trans d124
    refine ⟨rfl, ?_⟩
    simp [go_sem, f124, sa, sb]
  case s45 =>
    refine step_val (v := (.int .i64 0)) (fun av wv hE hS hO hD => ?_) (fun _ => rfl)
    have h12 : av.eval (.tmp 12) = (.int .i64 0) := hO.2.2 12 rfl
    have f12 := (ev_form av 12).symm.trans h12
    have d125 : av.eval (.tmp 125) = (.bool true) := hD.1 rfl _ rfl
    have f125 := (ev_form av 125).symm.trans d125
    refine ⟨(wanted_of (d := 125) (b := true) (want := true) rfl rfl rfl d125), ?_⟩
    simp [go_sem, f12, f125, sa, sb]
  case s46 =>
    refine step_val (v := (.bool true)) (fun av wv hE hS hO hD => ?_) (fun _ => rfl)
    have d126 : av.eval (.tmp 126) = (.int .i64 0) := hD.1 rfl _ rfl
    have f126 := (ev_form av 126).symm.trans d126
    have d125 : av.eval (.tmp 125) = (.bool true) := hD.2.1 rfl _ rfl
    have f125 := (ev_form av 125).symm.trans d125
    refine ⟨(wanted_of (d := 125) (b := true) (want := true) rfl rfl rfl d125), ?_⟩
    simp [go_sem, f126, f125, sa, sb]
  case s47 =>
    refine step_val (v := (.bool true)) (fun av wv hE hS hO hD => ?_) (fun _ => rfl)
    have d125 : av.eval (.tmp 125) = (.bool true) := hD.1 rfl _ rfl
    have f125 := (ev_form av 125).symm.trans d125
    have d127 : av.eval (.tmp 127) = (.bool true) := hD.2.1 rfl _ rfl
    have f127 := (ev_form av 127).symm.trans d127
    refine ⟨rfl, ?_⟩
    simp [go_sem, f125, f127, sa, sb]
  case s48 =>
    refine step_val (v := (.bool true)) (fun av wv hE hS hO hD => ?_) (fun _ => rfl)
    have d128 : av.eval (.tmp 128) = (.bool true) := hD.1 rfl _ rfl
    have f128 := (ev_form av 128).symm.trans d128
    refine ⟨rfl, ?_⟩
    simp [go_sem, f128, sa, sb]
  case s49 =>
    refine step_val (v := (.string tb)) (fun av wv hE hS hO hD => ?_) (fun _ => rfl)
    have h11 : av.eval (.tmp 11) = (.string tb) := hO.2.2 11 rfl
    have f11 := (ev_form av 11).symm.trans h11
    have d129 : av.eval (.tmp 129) = (.bool true) := hD.1 rfl _ rfl
    have f129 := (ev_form av 129).symm.trans d129
    refine ⟨(wanted_of (d := 129) (b := true) (want := true) rfl rfl rfl d129), ?_⟩
    simp [go_sem, f11, f129, sa, sb]
  case s50 =>
    refine step_val (v := (.pointer (some ⟨tp, 0, none⟩))) (fun av wv hE hS hO hD => ?_) (fun _ => rfl)
    have h15 : av.eval (.tmp 15) = (.pointer (some ⟨tp, 0, none⟩)) := hO.2.2 15 rfl
    have f15 := (ev_form av 15).symm.trans h15
    have d129 : av.eval (.tmp 129) = (.bool true) := hD.1 rfl _ rfl
    have f129 := (ev_form av 129).symm.trans d129
    refine ⟨(wanted_of (d := 129) (b := true) (want := true) rfl rfl rfl d129), ?_⟩
    simp [go_sem, f15, f129, sa, sb]
  case s51 =>
    refine step_wp (fun av wv hE hS hO hD => ?_)
    have d131 : av.eval (.tmp 131) = (.pointer (some ⟨tp, 0, none⟩)) := hD.1 rfl _ rfl
    have f131 := (ev_form av 131).symm.trans d131
    have d129 : av.eval (.tmp 129) = (.bool true) := hD.2.1 rfl _ rfl
    have f129 := (ev_form av 129).symm.trans d129
    refine ⟨(wanted_of (d := 129) (b := true) (want := true) rfl rfl rfl d129), ?_⟩
    refine wp_of_call (v := .string tb) (by simp [go_sem, f131]) (HRT.out wv (of_drew hE)) (fun w2 hb => ⟨_, rfl, es_of_ext hb, rfl⟩)
  case s52 =>
    refine step_val (v := (.bool true)) (fun av wv hE hS hO hD => ?_) (fun _ => rfl)
    have d130 : av.eval (.tmp 130) = (.string tb) := hD.1 rfl _ rfl
    have f130 := (ev_form av 130).symm.trans d130
    have d132 : av.eval (.tmp 132) = (.string tb) := hD.2.1 rfl _ rfl
    have f132 := (ev_form av 132).symm.trans d132
    have d129 : av.eval (.tmp 129) = (.bool true) := hD.2.2.1 rfl _ rfl
    have f129 := (ev_form av 129).symm.trans d129
    refine ⟨(wanted_of (d := 129) (b := true) (want := true) rfl rfl rfl d129), ?_⟩
    simp [go_sem, f130, f132, f129, sa, sb]
  case s53 =>
    refine step_val (v := (.bool true)) (fun av wv hE hS hO hD => ?_) (fun _ => rfl)
    have d129 : av.eval (.tmp 129) = (.bool true) := hD.1 rfl _ rfl
    have f129 := (ev_form av 129).symm.trans d129
    have d133 : av.eval (.tmp 133) = (.bool true) := hD.2.1 rfl _ rfl
    have f133 := (ev_form av 133).symm.trans d133
    refine ⟨rfl, ?_⟩
    simp [go_sem, f129, f133, sa, sb]
  case s54 =>
    refine step_val (v := (.bool true)) (fun av wv hE hS hO hD => ?_) (fun _ => rfl)
    have d134 : av.eval (.tmp 134) = (.bool true) := hD.1 rfl _ rfl
    have f134 := (ev_form av 134).symm.trans d134
    refine ⟨rfl, ?_⟩
    simp [go_sem, f134, sa, sb]
  case s55 =>
    refine step_val (v := (.int .i64 2)) (fun av wv hE hS hO hD => ?_) (fun _ => rfl)
    have h14 : av.eval (.tmp 14) = (.int .i64 2) := hO.2.2 14 rfl
    have f14 := (ev_form av 14).symm.trans h14
    have d135 : av.eval (.tmp 135) = (.bool true) := hD.1 rfl _ rfl
    have f135 := (ev_form av 135).symm.trans d135
    refine ⟨(wanted_of (d := 135) (b := true) (want := true) rfl rfl rfl d135), ?_⟩
    simp [go_sem, f14, f135, sa, sb]
  case s56 =>
    refine step_val (v := (.bool true)) (fun av wv hE hS hO hD => ?_) (fun _ => rfl)
    have d136 : av.eval (.tmp 136) = (.int .i64 2) := hD.1 rfl _ rfl
    have f136 := (ev_form av 136).symm.trans d136
    have d135 : av.eval (.tmp 135) = (.bool true) := hD.2.1 rfl _ rfl
    have f135 := (ev_form av 135).symm.trans d135
    refine ⟨(wanted_of (d := 135) (b := true) (want := true) rfl rfl rfl d135), ?_⟩
    simp [go_sem, f136, f135, sa, sb]
  case s57 =>
    refine step_val (v := (.bool true)) (fun av wv hE hS hO hD => ?_) (fun _ => rfl)
    have d135 : av.eval (.tmp 135) = (.bool true) := hD.1 rfl _ rfl
    have f135 := (ev_form av 135).symm.trans d135
    have d137 : av.eval (.tmp 137) = (.bool true) := hD.2.1 rfl _ rfl
    have f137 := (ev_form av 137).symm.trans d137
    refine ⟨rfl, ?_⟩
    simp [go_sem, f135, f137, sa, sb]
  case s58 =>
    refine step_val (v := (.bool true)) (fun av wv hE hS hO hD => ?_) (fun _ => rfl)
    have d138 : av.eval (.tmp 138) = (.bool true) := hD.1 rfl _ rfl
    have f138 := (ev_form av 138).symm.trans d138
    refine ⟨rfl, ?_⟩
    simp [go_sem, f138, sa, sb]
  intro a' w' hE hO hall
  have hA := act_of_outer (ds := [81, 82, 83, 84, 85, 86, 87, 88, 89, 90, 91, 92, 93, 94, 95, 96, 97, 98, 99, 100, 101, 102, 103, 104, 105, 106, 107, 108, 109, 110, 111, 112, 113, 114, 115, 116, 117, 118, 119, 120, 121, 122, 123, 124, 125, 126, 127, 128, 129, 130, 131, 132, 133, 134, 135, 136, 137, 138, 0]) rfl hO (by kernel_rfl)
  have e81 : (fun u _ => u = (.bool true)) (a'.eval (.tmp 81)) w' := hall.1 _ rfl
  have e82 : (fun u _ => u = (.bool true)) (a'.eval (.tmp 82)) w' := hall.2.1 _ rfl
  have e83 : (fun u _ => u = (.agg #[.int .u64 5, .string z, .string z, .string z])) (a'.eval (.tmp 83)) w' := hall.2.2.1 _ rfl
  have e84 : (fun u _ => u = (.string z)) (a'.eval (.tmp 84)) w' := hall.2.2.2.1 _ rfl
  have e85 : (fun u _ => u = (.agg #[.int .u64 7, .string z, .string z, .string z])) (a'.eval (.tmp 85)) w' := hall.2.2.2.2.1 _ rfl
  have e86 : (fun u w' => ∃ b, u = .slice (some ⟨b, 0, none⟩) 2 2 ∧ w'.heap[b]? = some (.cells #[.int .u64 5, .string z, .string z, .string z, .int .u64 7, .string z, .string z, .string z] 33 (0, 0))) (a'.eval (.tmp 86)) w' := hall.2.2.2.2.2.1 _ rfl
  have e87 : (fun u _ => u = (.bool true)) (a'.eval (.tmp 87)) w' := hall.2.2.2.2.2.2.1 _ rfl
  have e88 : (fun u _ => u = (.bool true)) (a'.eval (.tmp 88)) w' := hall.2.2.2.2.2.2.2.1 _ rfl
  have e89 : (fun u _ => u = (.bool true)) (a'.eval (.tmp 89)) w' := hall.2.2.2.2.2.2.2.2.1 _ rfl
  have e90 : (fun u _ => u = (.agg #[.int .u64 5, .string z, .string z, .string z])) (a'.eval (.tmp 90)) w' := hall.2.2.2.2.2.2.2.2.2.1 _ rfl
  have e91 : (fun u _ => u = (.string z)) (a'.eval (.tmp 91)) w' := hall.2.2.2.2.2.2.2.2.2.2.1 _ rfl
  have e92 : (fun u _ => u = (.agg #[.int .u64 5, .string z, .string z, .string z])) (a'.eval (.tmp 92)) w' := hall.2.2.2.2.2.2.2.2.2.2.2.1 _ rfl
  have e93 : (fun u w' => ∃ b, u = .slice (some ⟨b, 0, none⟩) 2 2 ∧ w'.heap[b]? = some (.cells #[.int .u64 5, .string z, .string z, .string z, .int .u64 5, .string z, .string z, .string z] 33 (0, 0))) (a'.eval (.tmp 93)) w' := hall.2.2.2.2.2.2.2.2.2.2.2.2.1 _ rfl
  have e94 : (fun u _ => u = (.bool true)) (a'.eval (.tmp 94)) w' := hall.2.2.2.2.2.2.2.2.2.2.2.2.2.1 _ rfl
  have e95 : (fun u _ => u = (.bool true)) (a'.eval (.tmp 95)) w' := hall.2.2.2.2.2.2.2.2.2.2.2.2.2.2.1 _ rfl
  have e96 : (fun u _ => u = (.bool true)) (a'.eval (.tmp 96)) w' := hall.2.2.2.2.2.2.2.2.2.2.2.2.2.2.2.1 _ rfl
  have e97 : (fun u _ => u = (.agg #[.int .u64 5, .string z, .string z, .string z])) (a'.eval (.tmp 97)) w' := hall.2.2.2.2.2.2.2.2.2.2.2.2.2.2.2.2.1 _ rfl
  have e98 : (fun u w' => ∃ b, u = .slice (some ⟨b, 0, none⟩) 1 1 ∧ w'.heap[b]? = some (.cells #[.int .u64 5, .string z, .string z, .string z] 33 (0, 0))) (a'.eval (.tmp 98)) w' := hall.2.2.2.2.2.2.2.2.2.2.2.2.2.2.2.2.2.1 _ rfl
  have e99 : (fun u _ => u = (.bool true)) (a'.eval (.tmp 99)) w' := hall.2.2.2.2.2.2.2.2.2.2.2.2.2.2.2.2.2.2.1 _ rfl
  have e100 : (fun u _ => u = (.bool true)) (a'.eval (.tmp 100)) w' := hall.2.2.2.2.2.2.2.2.2.2.2.2.2.2.2.2.2.2.2.1 _ rfl
  have e101 : (fun u _ => u = (.bool true)) (a'.eval (.tmp 101)) w' := hall.2.2.2.2.2.2.2.2.2.2.2.2.2.2.2.2.2.2.2.2.1 _ rfl
  have e102 : (fun u _ => u = (.agg #[.int .u64 5, .string z, .string z, .string z])) (a'.eval (.tmp 102)) w' := hall.2.2.2.2.2.2.2.2.2.2.2.2.2.2.2.2.2.2.2.2.2.1 _ rfl
  have e103 : (fun u _ => u = (.string z)) (a'.eval (.tmp 103)) w' := hall.2.2.2.2.2.2.2.2.2.2.2.2.2.2.2.2.2.2.2.2.2.2.1 _ rfl
  have e104 : (fun u _ => u = (.agg #[.int .u64 6, .string z, .string z, .string z])) (a'.eval (.tmp 104)) w' := hall.2.2.2.2.2.2.2.2.2.2.2.2.2.2.2.2.2.2.2.2.2.2.2.1 _ rfl
  have e105 : (fun u w' => ∃ b, u = .slice (some ⟨b, 0, none⟩) 2 2 ∧ w'.heap[b]? = some (.cells #[.int .u64 5, .string z, .string z, .string z, .int .u64 6, .string z, .string z, .string z] 33 (0, 0))) (a'.eval (.tmp 105)) w' := hall.2.2.2.2.2.2.2.2.2.2.2.2.2.2.2.2.2.2.2.2.2.2.2.2.1 _ rfl
  have e106 : (fun u _ => u = (.bool false)) (a'.eval (.tmp 106)) w' := hall.2.2.2.2.2.2.2.2.2.2.2.2.2.2.2.2.2.2.2.2.2.2.2.2.2.1 _ rfl
  have e107 : (fun u _ => u = (.bool true)) (a'.eval (.tmp 107)) w' := hall.2.2.2.2.2.2.2.2.2.2.2.2.2.2.2.2.2.2.2.2.2.2.2.2.2.2.1 _ rfl
  have e108 : (fun u _ => u = (.bool true)) (a'.eval (.tmp 108)) w' := hall.2.2.2.2.2.2.2.2.2.2.2.2.2.2.2.2.2.2.2.2.2.2.2.2.2.2.2.1 _ rfl
  have e109 : (fun u _ => u = (.bool true)) (a'.eval (.tmp 109)) w' := hall.2.2.2.2.2.2.2.2.2.2.2.2.2.2.2.2.2.2.2.2.2.2.2.2.2.2.2.2.1 _ rfl
  have e110 : (fun u _ => u = (.agg #[.int .u64 5, .string z, .string z, .string z])) (a'.eval (.tmp 110)) w' := hall.2.2.2.2.2.2.2.2.2.2.2.2.2.2.2.2.2.2.2.2.2.2.2.2.2.2.2.2.2.1 _ rfl
  have e111 : (fun u _ => u = (.string d)) (a'.eval (.tmp 111)) w' := hall.2.2.2.2.2.2.2.2.2.2.2.2.2.2.2.2.2.2.2.2.2.2.2.2.2.2.2.2.2.2.1 _ rfl
  have e112 : (fun u _ => u = (.agg #[.int .u64 6, .string d, .string z, .string z])) (a'.eval (.tmp 112)) w' := hall.2.2.2.2.2.2.2.2.2.2.2.2.2.2.2.2.2.2.2.2.2.2.2.2.2.2.2.2.2.2.2.1 _ rfl
  have e113 : (fun u w' => ∃ b, u = .slice (some ⟨b, 0, none⟩) 2 2 ∧ w'.heap[b]? = some (.cells #[.int .u64 5, .string z, .string z, .string z, .int .u64 6, .string d, .string z, .string z] 33 (0, 0))) (a'.eval (.tmp 113)) w' := hall.2.2.2.2.2.2.2.2.2.2.2.2.2.2.2.2.2.2.2.2.2.2.2.2.2.2.2.2.2.2.2.2.1 _ rfl
  have e114 : (fun u _ => u = (.bool true)) (a'.eval (.tmp 114)) w' := hall.2.2.2.2.2.2.2.2.2.2.2.2.2.2.2.2.2.2.2.2.2.2.2.2.2.2.2.2.2.2.2.2.2.1 _ rfl
  have e115 : (fun u _ => u = (.bool true)) (a'.eval (.tmp 115)) w' := hall.2.2.2.2.2.2.2.2.2.2.2.2.2.2.2.2.2.2.2.2.2.2.2.2.2.2.2.2.2.2.2.2.2.2.1 _ rfl
  have e116 : (fun u _ => u = (.bool true)) (a'.eval (.tmp 116)) w' := hall.2.2.2.2.2.2.2.2.2.2.2.2.2.2.2.2.2.2.2.2.2.2.2.2.2.2.2.2.2.2.2.2.2.2.2.1 _ rfl
  have e117 : (fun u _ => u = (.int .i64 0)) (a'.eval (.tmp 117)) w' := hall.2.2.2.2.2.2.2.2.2.2.2.2.2.2.2.2.2.2.2.2.2.2.2.2.2.2.2.2.2.2.2.2.2.2.2.2.1 _ rfl
  have e118 : (fun u _ => u = (.bool true)) (a'.eval (.tmp 118)) w' := hall.2.2.2.2.2.2.2.2.2.2.2.2.2.2.2.2.2.2.2.2.2.2.2.2.2.2.2.2.2.2.2.2.2.2.2.2.2.1 _ rfl
  have e119 : (fun u _ => u = (.bool true)) (a'.eval (.tmp 119)) w' := hall.2.2.2.2.2.2.2.2.2.2.2.2.2.2.2.2.2.2.2.2.2.2.2.2.2.2.2.2.2.2.2.2.2.2.2.2.2.2.1 _ rfl
  have e120 : (fun u _ => u = (.bool true)) (a'.eval (.tmp 120)) w' := hall.2.2.2.2.2.2.2.2.2.2.2.2.2.2.2.2.2.2.2.2.2.2.2.2.2.2.2.2.2.2.2.2.2.2.2.2.2.2.2.1 _ rfl
  have e121 : (fun u _ => u = (.string ta)) (a'.eval (.tmp 121)) w' := hall.2.2.2.2.2.2.2.2.2.2.2.2.2.2.2.2.2.2.2.2.2.2.2.2.2.2.2.2.2.2.2.2.2.2.2.2.2.2.2.2.1 _ rfl
  have e122 : (fun u _ => u = (.string ta)) (a'.eval (.tmp 122)) w' := hall.2.2.2.2.2.2.2.2.2.2.2.2.2.2.2.2.2.2.2.2.2.2.2.2.2.2.2.2.2.2.2.2.2.2.2.2.2.2.2.2.2.1 _ rfl
  have e123 : (fun u _ => u = (.bool true)) (a'.eval (.tmp 123)) w' := hall.2.2.2.2.2.2.2.2.2.2.2.2.2.2.2.2.2.2.2.2.2.2.2.2.2.2.2.2.2.2.2.2.2.2.2.2.2.2.2.2.2.2.1 _ rfl
  have e124 : (fun u _ => u = (.bool true)) (a'.eval (.tmp 124)) w' := hall.2.2.2.2.2.2.2.2.2.2.2.2.2.2.2.2.2.2.2.2.2.2.2.2.2.2.2.2.2.2.2.2.2.2.2.2.2.2.2.2.2.2.2.1 _ rfl
  have e125 : (fun u _ => u = (.bool true)) (a'.eval (.tmp 125)) w' := hall.2.2.2.2.2.2.2.2.2.2.2.2.2.2.2.2.2.2.2.2.2.2.2.2.2.2.2.2.2.2.2.2.2.2.2.2.2.2.2.2.2.2.2.2.1 _ rfl
  have e126 : (fun u _ => u = (.int .i64 0)) (a'.eval (.tmp 126)) w' := hall.2.2.2.2.2.2.2.2.2.2.2.2.2.2.2.2.2.2.2.2.2.2.2.2.2.2.2.2.2.2.2.2.2.2.2.2.2.2.2.2.2.2.2.2.2.1 _ rfl
  have e127 : (fun u _ => u = (.bool true)) (a'.eval (.tmp 127)) w' := hall.2.2.2.2.2.2.2.2.2.2.2.2.2.2.2.2.2.2.2.2.2.2.2.2.2.2.2.2.2.2.2.2.2.2.2.2.2.2.2.2.2.2.2.2.2.2.1 _ rfl
  have e128 : (fun u _ => u = (.bool true)) (a'.eval (.tmp 128)) w' := hall.2.2.2.2.2.2.2.2.2.2.2.2.2.2.2.2.2.2.2.2.2.2.2.2.2.2.2.2.2.2.2.2.2.2.2.2.2.2.2.2.2.2.2.2.2.2.2.1 _ rfl
  have e129 : (fun u _ => u = (.bool true)) (a'.eval (.tmp 129)) w' := hall.2.2.2.2.2.2.2.2.2.2.2.2.2.2.2.2.2.2.2.2.2.2.2.2.2.2.2.2.2.2.2.2.2.2.2.2.2.2.2.2.2.2.2.2.2.2.2.2.1 _ rfl
  have e130 : (fun u _ => u = (.string tb)) (a'.eval (.tmp 130)) w' := hall.2.2.2.2.2.2.2.2.2.2.2.2.2.2.2.2.2.2.2.2.2.2.2.2.2.2.2.2.2.2.2.2.2.2.2.2.2.2.2.2.2.2.2.2.2.2.2.2.2.1 _ rfl
  have e131 : (fun u _ => u = (.pointer (some ⟨tp, 0, none⟩))) (a'.eval (.tmp 131)) w' := hall.2.2.2.2.2.2.2.2.2.2.2.2.2.2.2.2.2.2.2.2.2.2.2.2.2.2.2.2.2.2.2.2.2.2.2.2.2.2.2.2.2.2.2.2.2.2.2.2.2.2.1 _ rfl
  have e132 : (fun u _ => u = (.string tb)) (a'.eval (.tmp 132)) w' := hall.2.2.2.2.2.2.2.2.2.2.2.2.2.2.2.2.2.2.2.2.2.2.2.2.2.2.2.2.2.2.2.2.2.2.2.2.2.2.2.2.2.2.2.2.2.2.2.2.2.2.2.1 _ rfl
  have e133 : (fun u _ => u = (.bool true)) (a'.eval (.tmp 133)) w' := hall.2.2.2.2.2.2.2.2.2.2.2.2.2.2.2.2.2.2.2.2.2.2.2.2.2.2.2.2.2.2.2.2.2.2.2.2.2.2.2.2.2.2.2.2.2.2.2.2.2.2.2.2.1 _ rfl
  have e134 : (fun u _ => u = (.bool true)) (a'.eval (.tmp 134)) w' := hall.2.2.2.2.2.2.2.2.2.2.2.2.2.2.2.2.2.2.2.2.2.2.2.2.2.2.2.2.2.2.2.2.2.2.2.2.2.2.2.2.2.2.2.2.2.2.2.2.2.2.2.2.2.1 _ rfl
  have e135 : (fun u _ => u = (.bool true)) (a'.eval (.tmp 135)) w' := hall.2.2.2.2.2.2.2.2.2.2.2.2.2.2.2.2.2.2.2.2.2.2.2.2.2.2.2.2.2.2.2.2.2.2.2.2.2.2.2.2.2.2.2.2.2.2.2.2.2.2.2.2.2.2.1 _ rfl
  have e136 : (fun u _ => u = (.int .i64 2)) (a'.eval (.tmp 136)) w' := hall.2.2.2.2.2.2.2.2.2.2.2.2.2.2.2.2.2.2.2.2.2.2.2.2.2.2.2.2.2.2.2.2.2.2.2.2.2.2.2.2.2.2.2.2.2.2.2.2.2.2.2.2.2.2.2.1 _ rfl
  have e137 : (fun u _ => u = (.bool true)) (a'.eval (.tmp 137)) w' := hall.2.2.2.2.2.2.2.2.2.2.2.2.2.2.2.2.2.2.2.2.2.2.2.2.2.2.2.2.2.2.2.2.2.2.2.2.2.2.2.2.2.2.2.2.2.2.2.2.2.2.2.2.2.2.2.2.1 _ rfl
  have e138 : (fun u _ => u = (.bool true)) (a'.eval (.tmp 138)) w' := hall.2.2.2.2.2.2.2.2.2.2.2.2.2.2.2.2.2.2.2.2.2.2.2.2.2.2.2.2.2.2.2.2.2.2.2.2.2.2.2.2.2.2.2.2.2.2.2.2.2.2.2.2.2.2.2.2.2.1 _ rfl
  have e0 : (fun u _ => u = (.bool true)) (a'.eval (.tmp 0)) w' := hall.2.2.2.2.2.2.2.2.2.2.2.2.2.2.2.2.2.2.2.2.2.2.2.2.2.2.2.2.2.2.2.2.2.2.2.2.2.2.2.2.2.2.2.2.2.2.2.2.2.2.2.2.2.2.2.2.2.2.1 _ rfl
  obtain ⟨v86, hv86⟩ : ∃ v, a'.eval (.tmp 86) = v := ⟨_, rfl⟩
  rw [hv86] at e86
  obtain ⟨v93, hv93⟩ : ∃ v, a'.eval (.tmp 93) = v := ⟨_, rfl⟩
  rw [hv93] at e93
  obtain ⟨v98, hv98⟩ : ∃ v, a'.eval (.tmp 98) = v := ⟨_, rfl⟩
  rw [hv98] at e98
  obtain ⟨v105, hv105⟩ : ∃ v, a'.eval (.tmp 105) = v := ⟨_, rfl⟩
  rw [hv105] at e105
  obtain ⟨v113, hv113⟩ : ∃ v, a'.eval (.tmp 113) = v := ⟨_, rfl⟩
  rw [hv113] at e113
  simp only [List.foldl_cons, List.foldl_nil, Act.put, List.setIfInBounds_toArray, List.set_cons_succ, List.set_cons_zero, e81, e82, e83, e84, e85, hv86, e87, e88, e89, e90, e91, e92, hv93, e94, e95, e96, e97, hv98, e99, e100, e101, e102, e103, e104, hv105, e106, e107, e108, e109, e110, e111, e112, hv113, e114, e115, e116, e117, e118, e119, e120, e121, e122, e123, e124, e125, e126, e127, e128, e129, e130, e131, e132, e133, e134, e135, e136, e137, e138, e0] at hA
  clear hO hall e81 e82 e83 e84 e85 hv86 e87 e88 e89 e90 e91 e92 hv93 e94 e95 e96 e97 hv98 e99 e100 e101 e102 e103 e104 hv105 e106 e107 e108 e109 e110 e111 e112 hv113 e114 e115 e116 e117 e118 e119 e120 e121 e122 e123 e124 e125 e126 e127 e128 e129 e130 e131 e132 e133 e134 e135 e136 e137 e138 e0
  subst hA
  have HBE : Hid (Below w.heap.size w w') := Lib.hid (bnext HB11.out (of_drew hE))
  clear hE
  go_wp2
  go_ret
  exact ⟨rfl, HBE.out⟩
end Go.Proofs.YtpobhbdomldecaaGreatDoor
namespace Go.Proofs.YtpobhbdomldecaaGreatDoor
open Go.RowKit
set_option linter.unusedSimpArgs false
set_option linter.unusedVariables false
structure HRowIs (w : World) (a : Option Addr) (L : List Hdr) : Prop where
  h : Hdrs w a L
  o : ∀ i, (hnth L i).Ok
  n : len L ≤ 70
theorem HRowIs.below {w w' : World} {a : Option Addr} {L : List Hdr} (h : HRowIs w a L) (hb : Below w.heap.size w w') : HRowIs w' a L := ⟨h.h.below hb, h.o, h.n⟩
theorem bne_same (s : ByteArray) : (s.toList != s.toList) = false := by unfold bne; rw [str_beq, decide_eq_true rfl]; rfl
set_option maxRecDepth 100000 in
set_option maxHeartbeats 8000000 in
theorem roots23_law (B : Nat) (l : List Hdr) (a : Option Addr) (cap : Nat) (A Bq : Int) (w : World) (ht : PT B w) (hlen : len l ≤ 9223372036854775807) (hc : Hdrs w a l) (hz : ∀ i, (hnth l i).prev.size ≤ 9223372036854775807 ∧ (hnth l i).txns.size ≤ 9223372036854775807 ∧ (hnth l i).seed.size ≤ 9223372036854775807)
    (hr : ∀ i, U64i (hnth l i).rnd) (hA : U64i A) (hB0 : 0 ≤ Bq) (hB1 : Bq ≤ 255) :
    Calls Tryz.prog 3 #[.slice a (len l) cap, .int .u64 A, .int .u8 Bq] w fun e w' => e = .returned (.bool true) ∧ Below w.heap.size w w' := by
  have HT := Lib.hid ht
  have HSH := Lib.hid (hshort_any a cap l w hlen hc hz)
  have HCH := Lib.hid (fun w9 (hb : Below w.heap.size w w9) => hchain_any a cap l A Bq w9 hlen (hc.below hb) hz hr hA hB0 hB1)
  have HR := Lib.hid hr
  clear ht hlen hc hz hr hA hB0 hB1
  go_enter Tryz.func3, Tryz.ntmps3
  go_wp2_with fail
  refine HSH.out.mono ?_
  rintro e w1 ⟨v0, rfl, hown0, hb1⟩
  have HB1 := Lib.hid hb1
  obtain ⟨a0, c0, rfl, hh0, _⟩ := Hdrs.own hown0
  have HR0 : Hid (HRowIs w1 a0 (shortH l)) := Lib.hid ⟨hh0, hoks (fun p hp => by
    unfold shortH at hp
    obtain ⟨q, hq, rfl⟩ := List.mem_map.1 hp
    obtain ⟨i, hi, rfl⟩ := List.getElem_of_mem (List.mem_of_mem_take hq)
    have := HR.out i
    rw [hnth_eq l i hi] at this
    exact cutH_ok this), by rw [shortH_len]; omega⟩
  obtain ⟨L0, hL0⟩ : ∃ L0, shortH l = L0 := ⟨_, rfl⟩
  rw [hL0] at HR0 ⊢
  clear hown0 hb1 hh0 hL0
  go_wp2_with fail
  refine (HCH.out w1 HB1.out).mono ?_
  rintro e w2 ⟨v1, L1, rfl, hown1, hn1, hk1, hb2⟩
  obtain ⟨a1, c1, rfl, hh1, _⟩ := Hdrs.own hown1
  have HR1 : Hid (HRowIs w2 a1 L1) := Lib.hid ⟨hh1, hk1, hn1⟩
  have HR2 := Lib.hid (HR0.out.below hb2)
  have HB2 : Hid (Below w.heap.size w w2) := Lib.hid (bnext HB1.out hb2)
  clear hown1 hn1 hk1 hb2 hh1 HR0
  go_upto_region 2 with fail
  obtain ⟨V, hV⟩ : ∃ V, w2.alloc (.cells #[.slice a0 (len L0) c0, .slice a1 (len L1) c1] 26) = V := ⟨_, rfl⟩
  obtain ⟨bb, hbb⟩ : ∃ bb, w2.heap.size = bb := ⟨_, rfl⟩
  have HBV : Hid (Below w.heap.size w V) := Lib.hid (by rw [← hV]; exact balloc HB2.out _)
  have HXV : Hid (Below w2.heap.size w2 V) := Lib.hid (by rw [← hV]; exact balloc (Below.refl _ _) _)
  have HBB : Hid (V.heap[bb]? = some (.cells #[.slice a0 (len L0) c0, .slice a1 (len L1) c1] 26 (0, 0))) := Lib.hid (by rw [← hV, ← hbb]; exact heap_alloc_new _ _)
  have HRW : Hid (∀ k, k < 2 → ∃ a c L, V.cell? ⟨bb, k, none⟩ = some (.slice a (len L) c) ∧ HRowIs V a L) := Lib.hid (fun k hk => by
    have : k = 0 ∨ k = 1 := by omega
    rcases this with rfl | rfl
    · exact ⟨a0, c0, L0, block_cell HBB.out 0, HR2.out.below HXV.out⟩
    · exact ⟨a1, c1, L1, block_cell HBB.out 1, HR1.out.below HXV.out⟩)
  rw [hV, hbb]
  clear hV hbb
  go_wp2
  go_loopg [8] 2 (fun gg i wr => ∃ k : Nat, gg + k = 2 ∧ i = .int .i64 (k : Nat) ∧ Hid (Below V.heap.size V wr))
  case atStart => exact ⟨0, rfl, rfl, Lib.hid (Below.refl _ _)⟩
  case round =>
    obtain ⟨k, hk, rfl, HW⟩ := hrel
    by_cases hlt : k < 2
    · obtain ⟨a, c, L, hcell, hrow⟩ := HRW.out k hlt
      have e0 : wr.cell? ⟨bb, k, none⟩ = some (.slice a (len L) c) := (HW.out.cell (p := ⟨bb, k, none⟩) (lt_of_cell hcell)).trans hcell
      have HROW := Lib.hid (hrow.below HW.out)
      have HTR := Lib.hid ((HT.out.below HBV.out).below HW.out)
      have b0 : (k : Int) < 2 := by omega
      have b1 : k < 2 := hlt
      clear hcell hrow
      go_wp2_with fail
      refine (hroot_any B L a c wr HTR.out HROW.out.h HROW.out.o (by have := HROW.out.n; omega)).mono ?_
      rintro e x1 ⟨rfl, hb⟩
      have HX1 : Hid (Below wr.heap.size wr x1) := Lib.hid hb
      clear hb e0 b1
      go_wp2_with fail
      refine (rhroot_any L a c x1 (by have := HROW.out.n; omega) (HROW.out.below HX1.out).h HROW.out.o).mono ?_
      rintro e x2 ⟨rfl, hb⟩
      have HX2 : Hid (Below wr.heap.size wr x2) := Lib.hid (bnext HX1.out hb)
      obtain ⟨S, hS⟩ : ∃ S, rtS L = S := ⟨_, rfl⟩
      obtain ⟨E, hE⟩ : ∃ E, rtE L = E := ⟨_, rfl⟩
      rw [hS, hE]
      clear hb hS hE
      have s1 : (S.toList != S.toList) = false := bne_same S
      go_wp2_with fail
      refine (hlinked_any B L a c x2 (HTR.out.below HX2.out) (HROW.out.below HX2.out).h HROW.out.o (by have := HROW.out.n; omega)).mono ?_
      rintro e x3 ⟨rfl, hb⟩
      have HX3 : Hid (Below wr.heap.size wr x3) := Lib.hid (bnext HX2.out hb)
      clear hb s1
      go_wp2_with fail
      refine (rlinked_any L a c x3 (by have := HROW.out.n; omega) (HROW.out.below HX3.out).h HROW.out.o).mono ?_
      rintro e x4 ⟨rfl, hb⟩
      have HX4 : Hid (Below wr.heap.size wr x4) := Lib.hid (bnext HX3.out hb)
      obtain ⟨q, hq⟩ : ∃ q, linkedH L = q := ⟨_, rfl⟩
      rw [hq]
      have HLN := Lib.hid HROW.out.n
      have HK := Lib.hid hk
      obtain ⟨GK, hGK⟩ : ∃ G, G = gk := ⟨_, rfl⟩
      subst hGK
      obtain ⟨wz, hwz⟩ : ∃ wz, wz = wr := ⟨_, rfl⟩
      subst hwz
      clear hb hq hk hlt
      go_wp2
      go_loopg [14] (len L) (fun gg i wr => ∃ m : Nat, gg + m = len L ∧ i = .int .i64 (m : Nat) ∧ Hid (Below wz.heap.size wz wr))
      case atStart => exact ⟨0, rfl, rfl, HX4⟩
      case round =>
        obtain ⟨m, hm, rfl, HY⟩ := hrel
        by_cases hlt : m < len L
        · obtain ⟨b, off, rfl, ⟨f0, f1, f2, f3⟩⟩ := (HROW.out.below HY.out).h m hlt
          have HOK := Lib.hid (HROW.out.o m)
          obtain ⟨r, hr⟩ : ∃ r, hnth L m = r := ⟨_, rfl⟩
          rw [hr] at f0 f1 f2 f3 HOK
          have HF := Lib.hid (show HdrAt wr b (off + m * 4) r from ⟨f0, f1, f2, f3⟩)
          have b1 : (m : Int) < len L := by omega
          have b2 : m < len L := hlt
          clear hr
          go_wp2_with fail
          refine (hdig_any B r wr (HTR.out.below HY.out) HOK.out).mono ?_
          rintro e y1 ⟨rfl, hb⟩
          obtain ⟨f0, f1, f2, f3⟩ := HF.out.below hb
          have HY1 : Hid (Below wz.heap.size wz y1) := Lib.hid (bnext HY.out hb)
          clear hb
          go_wp2_with fail
          refine (rhdig_any r y1 HOK.out).mono ?_
          rintro e y2 ⟨rfl, hb⟩
          have HY2 : Hid (Below wz.heap.size wz y2) := Lib.hid (bnext HY1.out hb)
          obtain ⟨S2, hS⟩ : ∃ S, dgS r = S := ⟨_, rfl⟩
          obtain ⟨E2, hE⟩ : ∃ E, dgE r = E := ⟨_, rfl⟩
          rw [hS, hE]
          have s2 : (S2.toList != S2.toList) = false := bne_same S2
          have h70 := HLN.out
          clear hb hS hE f0 f1 f2 f3
          go_wp2
          go_roundg (gk - 1)
          case rel => exact ⟨m + 1, by omega, by go_num, HY2⟩
          case measure => omega
        · have b1 : ¬ (m : Int) < len L := by omega
          have hk := HK.out
          go_wp2
          go_roundg (GK - 1)
          case rel => exact ⟨k + 1, by omega, by go_num, Lib.hid (bnext HW.out HY.out)⟩
          case measure => omega
    · have b0 : ¬ (k : Int) < 2 := by omega
      go_wp2_with fail
      refine (works23_any B wr ((HT.out.below HBV.out).below HW.out)).mono ?_
      rintro e y1 ⟨rfl, hb⟩
      have HE : Hid (Below w.heap.size w y1) := Lib.hid (bnext (bnext HBV.out HW.out) hb)
      clear hb
      go_wp2
      go_ret
      exact ⟨rfl, HE.out⟩
end Go.Proofs.YtpobhbdomldecaaGreatDoor
namespace Go.Proofs.YtpobhbdomldecaaGreatDoor
set_option linter.unusedSimpArgs false
set_option linter.unusedVariables false
open Go.RowKit Go.ChangeShapes Go.WideShapes Go.ChangeAt Go.Deep
section
variable {H : Type} {enc : TypeId × Value → H} {P : Program} {w : World}
theorem below_trodAll (hl : laidOutB P = true) {W W' : World} (hb : Below W.heap.size W W') : ∀ {ts : List TypeId} {vs : List Value} {ds : List (DataW H)} {ps : List MemPlace},
    (∀ t ∈ ts, P.readableRec t = true ∧ t < P.types.size) → DataW.TrodAll enc P W 0 (fun _ => true) true ts vs ds ps → DataW.TrodAll enc P W' 0 (fun b => decide (b < W.heap.size)) true ts vs ds ps
  | [], vs, ds, ps, _, h => by
    obtain ⟨rfl, rfl, rfl⟩ := trodAll_nil h
    exact trodAll_mk0
  | t :: ts, vs, ds, ps, ht, h => by
    obtain ⟨v, vs', d, ds', p, q, rfl, rfl, rfl, h0, r0⟩ := trodAll_cons h
    have lt0 : ∀ x ∈ p, x.block < W.heap.size := by obtain ⟨m, hm⟩ := h0; exact DataW.trod_lt m _ _ _ hm
    exact trodAll_cons_mk (Below.trod hl (ht t (List.mem_cons_self ..)).1 (ht t (List.mem_cons_self ..)).2 h0 hb lt0) (below_trodAll hl hb (fun t' h' => ht t' (List.mem_cons_of_mem _ h')) r0)
theorem list_of {α : Type} {n : Nat} {p : Nat → α → Prop} (h : ∀ i, i < n → ∃ x, p i x) : ∃ l : List α, l.length = n ∧ ∀ i (hi : i < l.length), p i l[i] := by
  induction n with
  | zero => exact ⟨[], rfl, fun i hi => by simp at hi⟩
  | succ n ih =>
    obtain ⟨l, hl, hp⟩ := ih (fun i hi => h i (by omega))
    obtain ⟨x, hx⟩ := h n (by omega)
    refine ⟨l ++ [x], by simp [hl], fun i hi => ?_⟩
    rcases Nat.lt_or_ge i l.length with h' | h'
    · rw [List.getElem_append_left h']; exact hp i h'
    · have e : i = l.length := by simp at hi; omega
      subst e
      simp only [List.getElem_append_right (Nat.le_refl _), Nat.sub_self, List.getElem_cons_zero]
      rw [hl]; exact hx
theorem open_elems {α : Type} {t e : TypeId} (k : Nat) (cells : α → List Value) (ok : α → Prop) (ht : P.underlying t = some (.slice e)) (hC : P.cellsOf e = k) (hk : 0 < k)
    (hel : ∀ n cs' y, cs'.length = k → DataW.trod enc P w 0 (fun _ => true) true n e cs' = some y → ∃ x, cs' = cells x ∧ ok x)
    {v : Value} {d : DataW H} {p : List MemPlace} {r : Reach} {base : Nat} (hv : Value.okWide P w r base t v) (h : DataW.Trod enc P w 0 (fun _ => true) true t v d p) :
    ∃ a c, ∃ l : List α, v = .slice a (len l) c ∧ len l ≤ c ∧ c ≤ maxLen ∧ ∀ i (hi : i < l.length), ok l[i] ∧ ∃ b off, a = some ⟨b, off, none⟩ ∧ ∀ j, j < k → w.cell? ⟨b, off + i * k + j, none⟩ = (cells l[i])[j]? := by
  obtain ⟨a0, n0, c0, rfl⟩ := okWide_slice ht hv
  obtain ⟨fuel, hf⟩ := h
  rcases open_slice ht hf with ⟨hcs, _⟩ | ⟨a, n, c, m, q, D, Pl, hcs, _, hl, hm, hmm, _, hi⟩
  · simp [Value.cells] at hcs
    obtain ⟨rfl, rfl, rfl⟩ := hcs
    exact ⟨none, 0, [], rfl, Nat.le_refl _, Nat.zero_le _, fun i hi => by simp at hi⟩
  · simp [Value.cells] at hcs
    obtain ⟨rfl, rfl, rfl⟩ := hcs
    have hnm : n0 ≤ m := by rw [hmm]; simp; exact hl
    have each : ∀ i, i < n0 → ∃ x, ok x ∧ ∃ b off, some a = some ⟨b, off, none⟩ ∧ ∀ j, j < k → w.cell? ⟨b, off + i * k + j, none⟩ = (cells x)[j]? := by
      intro i hin
      obtain ⟨cs', hc, htr⟩ := hi i (by omega)
      rw [hC] at hc
      obtain ⟨_, hcl, hat⟩ := World.cells?_some hc
      obtain ⟨x, rfl, hx⟩ := hel q cs' _ hcl htr
      obtain ⟨b, off, spot⟩ := a
      have hspot : spot = none := by
        obtain ⟨cs0, hc0, htr0⟩ := hi 0 (by omega)
        rw [hC] at hc0
        obtain ⟨_, hcl0, hat0⟩ := World.cells?_some hc0
        have h1 := hat0 0 hk
        have h2 : cs0[0]? = some (cs0[0]'(by omega)) := List.getElem?_eq_getElem (by omega)
        rw [h2] at h1
        simpa [Addr.add] using World.cell?_spot h1
      subst hspot
      refine ⟨x, hx, b, off, rfl, fun j hj => ?_⟩
      have h1 := hat j hj
      rw [Go.Deep.add_add] at h1
      have e : (⟨b, off, none⟩ : Addr).add (i * k + j) = ⟨b, off + i * k + j, none⟩ := by
        unfold Addr.add; split
        · rename_i h0; simp <;> omega
        · simp [Nat.add_assoc]
      rw [e] at h1; exact h1
    obtain ⟨l, hll, hp⟩ := list_of each
    subst hll
    exact ⟨some a, c0, l, rfl, hl, hm, hp⟩
theorem cell_read {n : Nat} {e : TypeId} {k : IntKind} {v : Value} {y : DataW H × List MemPlace} (he : P.underlying e = some (.int k)) (h : DataW.trod enc P w 0 (fun _ => true) true n e [v] = some y) : ∃ x, v = .int k x ∧ (Lit.int k x).wf = true := by
  obtain ⟨x, hx, _, hw⟩ := DataW.trod_int he h
  exact ⟨x, by simpa using hx, hw⟩
theorem wf_u64 {x : Int} (h : (Lit.int .u64 x).wf = true) : 0 ≤ x ∧ x < 18446744073709551616 := by
  simp [Lit.wf, IntKind.min, IntKind.max, IntKind.bits, IntKind.signed] at h; omega
theorem wf_u8 {x : Int} (h : (Lit.int .u8 x).wf = true) : 0 ≤ x ∧ x ≤ 255 := by
  simp [Lit.wf, IntKind.min, IntKind.max, IntKind.bits, IntKind.signed] at h; omega
end
end Go.Proofs.YtpobhbdomldecaaGreatDoor
namespace Go.Proofs.YtpobhbdomldecaaGreatDoor
set_option linter.unusedSimpArgs false
set_option linter.unusedVariables false
open Go.RowKit Go.ChangeShapes Go.WideShapes Go.ChangeAt
theorem own : ownKnob Tryz.prog.godebug = none := by kernel_rfl
theorem laidOut : laidOutB Tryz.prog = true := by kernel_rfl
end Go.Proofs.YtpobhbdomldecaaGreatDoor
namespace Go.Proofs.YtpobhbdomldecaaGreatDoor
set_option linter.unusedSimpArgs false
set_option linter.unusedVariables false
open Go.RowKit Go.ChangeShapes Go.WideShapes Go.ChangeAt
section
variable {P : Program} {H : Type} {enc : TypeId × Value → H} {w : World}
theorem strH_read {n : Nat} {e : TypeId} {v : Value} {y : DataW H × List MemPlace} (he : P.underlying e = some .string) (h : DataW.trod enc P w 0 (fun _ => true) true n e [v] = some y) : ∃ s : ByteArray, v = .string s ∧ s.size ≤ maxLen := by
  obtain ⟨s, hx, _, hw⟩ := DataW.trod_string he h
  exact ⟨s, by simpa using hx, hw⟩
end
structure HdrIn (r : Hdr) : Prop where
  n : U64i r.rnd
  p : r.prev.size ≤ maxLen
  t : r.txns.size ≤ maxLen
  s : r.seed.size ≤ maxLen
theorem HdrIn.zero : HdrIn Hdr.zero := ⟨⟨by decide, by decide⟩, by decide, by decide, by decide⟩
set_option maxRecDepth 100000 in
theorem open_hdrs {H : Type} {enc : TypeId × Value → H} {w : World} {v : Value} {d : DataW H} {p : List MemPlace} {r : Reach} {base : Nat} (hv : Value.okWide Tryz.prog w r base 22 v) (h : DataW.Trod enc Tryz.prog w 0 (fun _ => true) true 22 v d p) :
    ∃ a c, ∃ l : List Hdr, v = .slice a (len l) c ∧ len l ≤ c ∧ c ≤ maxLen ∧ Hdrs w a l ∧ ∀ i, HdrIn (hnth l i) := by
  obtain ⟨a, c, l, rfl, h1, h2, h3⟩ := open_elems 4 Hdr.cells HdrIn Tryz.underlying22 (by kernel_rfl) (by decide) (fun n cs' y hl hy => by
    match cs', hl with
    | [v0, v1, v2, v3], _ =>
      obtain ⟨xs, m, _, _, _, hxl, hx⟩ := DataW.trod_struct Tryz.underlying33 hy
      have cu : Tryz.prog.cellsOf 23 = 1 := by kernel_rfl
      have cs : Tryz.prog.cellsOf 9 = 1 := by kernel_rfl
      have hxl' : xs.length = 4 := hxl
      have h0 : DataW.trod enc Tryz.prog w 0 (fun _ => true) true m 23 (([v0, v1, v2, v3].drop 0).take (Tryz.prog.cellsOf 23)) = xs[0]? := hx 0 _ rfl
      have h1 : DataW.trod enc Tryz.prog w 0 (fun _ => true) true m 9 (([v0, v1, v2, v3].drop 1).take (Tryz.prog.cellsOf 9)) = xs[1]? := hx 1 _ rfl
      have h2 : DataW.trod enc Tryz.prog w 0 (fun _ => true) true m 9 (([v0, v1, v2, v3].drop 2).take (Tryz.prog.cellsOf 9)) = xs[2]? := hx 2 _ rfl
      have h3 : DataW.trod enc Tryz.prog w 0 (fun _ => true) true m 9 (([v0, v1, v2, v3].drop 3).take (Tryz.prog.cellsOf 9)) = xs[3]? := hx 3 _ rfl
      rw [cu] at h0
      rw [cs] at h1 h2 h3
      obtain ⟨x0, rfl, w0⟩ := cell_read Tryz.underlying23 (h0.trans (List.getElem?_eq_getElem (show 0 < xs.length by omega)))
      obtain ⟨x1, rfl, w1⟩ := strH_read Tryz.underlying9 (h1.trans (List.getElem?_eq_getElem (show 1 < xs.length by omega)))
      obtain ⟨x2, rfl, w2⟩ := strH_read Tryz.underlying9 (h2.trans (List.getElem?_eq_getElem (show 2 < xs.length by omega)))
      obtain ⟨x3, rfl, w3⟩ := strH_read Tryz.underlying9 (h3.trans (List.getElem?_eq_getElem (show 3 < xs.length by omega)))
      have u0 := wf_u64 w0
      exact ⟨⟨x0, x1, x2, x3⟩, rfl, HdrIn.mk ⟨u0.1, by have := u0.2; show x0 ≤ _; omega⟩ w1 w2 w3⟩) hv h
  refine ⟨a, c, l, rfl, h1, h2, fun i hi => ?_, fun i => ?_⟩
  · obtain ⟨_, b, off, e1, e2⟩ := h3 i hi
    rw [hnth_eq l i hi]
    exact ⟨b, off, e1, by have := e2 0 (by decide); rwa [Nat.add_zero] at this, e2 1 (by decide), e2 2 (by decide), e2 3 (by decide)⟩
  · rcases Nat.lt_or_ge i l.length with hi | hi
    · rw [hnth_eq l i hi]; exact (h3 i hi).1
    · have : hnth l i = Hdr.zero := by unfold hnth; rw [List.getD_eq_getElem?_getD, List.getElem?_eq_none hi]; rfl
      rw [this]; exact HdrIn.zero
end Go.Proofs.YtpobhbdomldecaaGreatDoor
namespace Go.Proofs.YtpobhbdomldecaaGreatDoor
set_option linter.unusedSimpArgs false
set_option linter.unusedVariables false
open Go.RowKit Go.ChangeShapes Go.WideShapes Go.ChangeAt
def rowD5 (r : PRow) : DataW Unit := .agg [.lit (.int .u64 r.below), .lit (.int .u8 r.first), .lit (.int .i64 r.size)]
set_option maxRecDepth 100000 in
theorem laid_prow {w : World} {fuel : Nat} {cs' : List Value} {r : PRow} {q : List MemPlace} (hl : cs'.length = 3) (h : DataW.trod (fun _ => ()) Tryz.prog w 0 (fun _ => true) false fuel 336 cs' = some (rowD5 r, q)) : cs' = r.cells := by
  match cs', hl with
  | [v0, v1, v2], _ =>
    obtain ⟨xs, m, _, e, _, hxl, hx⟩ := DataW.trod_struct Tryz.underlying336 h
    have cu : Tryz.prog.cellsOf 5 = 1 := by kernel_rfl
    have ci : Tryz.prog.cellsOf 3 = 1 := by kernel_rfl
    have cq : Tryz.prog.cellsOf 23 = 1 := by kernel_rfl
    have hxl' : xs.length = 3 := hxl
    have h0 : DataW.trod (fun _ => ()) Tryz.prog w 0 (fun _ => true) false m 23 (([v0, v1, v2].drop 0).take (Tryz.prog.cellsOf 23)) = xs[0]? := hx 0 _ rfl
    have h1 : DataW.trod (fun _ => ()) Tryz.prog w 0 (fun _ => true) false m 5 (([v0, v1, v2].drop 1).take (Tryz.prog.cellsOf 5)) = xs[1]? := hx 1 _ rfl
    have h2 : DataW.trod (fun _ => ()) Tryz.prog w 0 (fun _ => true) false m 3 (([v0, v1, v2].drop 2).take (Tryz.prog.cellsOf 3)) = xs[2]? := hx 2 _ rfl
    rw [cq] at h0
    rw [cu] at h1
    rw [ci] at h2
    match xs, hxl' with
    | [x0, x1, x2], _ =>
      obtain ⟨n0, e0, y0, _⟩ := DataW.trod_int Tryz.underlying23 (show DataW.trod (fun _ => ()) Tryz.prog w 0 (fun _ => true) false m 23 [v0] = some x0 from h0)
      obtain ⟨n1, e1, y1, _⟩ := DataW.trod_int Tryz.underlying5 (show DataW.trod (fun _ => ()) Tryz.prog w 0 (fun _ => true) false m 5 [v1] = some x1 from h1)
      obtain ⟨n2, e2, y2, _⟩ := DataW.trod_int Tryz.underlying3 (show DataW.trod (fun _ => ()) Tryz.prog w 0 (fun _ => true) false m 3 [v2] = some x2 from h2)
      subst y0 y1 y2
      simp [rowD5] at e e0 e1 e2
      obtain ⟨⟨a0, a1, a2⟩, _⟩ := e
      subst e0 e1 e2
      unfold PRow.cells
      rw [a0, a1, a2]
set_option maxRecDepth 100000 in
theorem laid_prows {w : World} {fuel : Nat} {cs : List Value} {l : List PRow} {p : List MemPlace} (h : DataW.trod (fun _ => ()) Tryz.prog w 0 (fun _ => true) false fuel 338 cs = some (.slice (l.map rowD5) [], p)) (hl : 0 < len l) :
    ∃ tb tq rc, cs = [.slice (some ⟨tb, tq, none⟩) (len l) rc] ∧ PRows w (some ⟨tb, tq, none⟩) l := by
  have hC : Tryz.prog.cellsOf 336 = 3 := by kernel_rfl
  rcases Go.Deep.open_slice Tryz.underlying338 h with ⟨_, hx⟩ | ⟨a, n, c, m, q, D, Pl, hcs, _, hln, hm, hmm, hx, hi⟩
  · simp at hx
  · simp only [Prod.mk.injEq, DataW.slice.injEq] at hx
    obtain ⟨⟨hD, _⟩, _⟩ := hx
    have hn : len l = n := by have := congrArg List.length hD; simpa [len] using this
    have hnm : n ≤ m := by rw [hmm]; simp; exact hln
    have each : ∀ i, i < len l → ∃ b off, a = ⟨b, off, none⟩ ∧ PRowAt w b (off + i * 3) (prth l i) := fun i hil => by
      obtain ⟨cs', hc, htr⟩ := hi i (by omega)
      rw [hC] at hc
      obtain ⟨_, hcl, hat⟩ := World.cells?_some hc
      have hDi : D i = rowD5 (prth l i) := by
        have h1 : (l.map rowD5)[i]? = ((List.range n).map D)[i]? := by rw [hD]
        have hil' : i < l.length := hil
        rw [List.getElem?_map, List.getElem?_map, List.getElem?_eq_getElem hil', List.getElem?_range (by omega)] at h1
        rw [prth_eq l i hil]
        exact (Option.some.inj h1).symm
      rw [hDi] at htr
      have hcs' := laid_prow hcl htr
      obtain ⟨b, off, spot⟩ := a
      have hat0 := hat 0 (by decide)
      rw [hcs'] at hat
      have hspot : spot = none := by
        obtain ⟨cs0, hc0, htr0⟩ := hi 0 (by omega)
        rw [hC] at hc0
        obtain ⟨_, hcl0, hat0⟩ := World.cells?_some hc0
        have h1 := hat0 0 (by decide)
        have h2 : cs0[0]? = some (cs0[0]'(by omega)) := List.getElem?_eq_getElem (by omega)
        rw [h2] at h1
        simpa [Addr.add] using World.cell?_spot h1
      subst hspot
      have key : ∀ j, j < 3 → w.cell? ⟨b, off + i * 3 + j, none⟩ = (prth l i).cells[j]? := fun j hj => by
        have h1 := hat j hj
        rw [Go.Deep.add_add] at h1
        have e : (⟨b, off, none⟩ : Addr).add (i * 3 + j) = ⟨b, off + i * 3 + j, none⟩ := by
          unfold Addr.add; split
          · rename_i h0; simp <;> omega
          · simp [Nat.add_assoc]
        rw [e] at h1; exact h1
      exact ⟨b, off, rfl, key 0 (by decide), key 1 (by decide), key 2 (by decide)⟩
    obtain ⟨b, off, rfl, _⟩ := each 0 hl
    refine ⟨b, off, c, by rw [hn]; exact hcs, fun i hil => ?_⟩
    obtain ⟨b', off', e, hR⟩ := each i hil
    cases e
    exact ⟨b, off, rfl, hR⟩
def tabD5 : DataW Unit := .agg ([0, 1, 2, 3, 4].map fun k => .slice ((hrowsP k).map rowD5) [])
set_option maxRecDepth 100000 in
theorem ptab_of {W : World} {g : Nat} {cs : Array Value} {fuel : Nat} {p : List MemPlace} (hgg : g = 5) (hg : Tryz.prog.globalNamed "sextant/pack.rows" = some g) (hv : W.var? Tryz.prog "sextant/pack.rows" = some cs)
    (h : DataW.trod (fun _ => ()) Tryz.prog W 0 (fun _ => true) false fuel 339 cs.toList = some (tabD5, p)) : PTab W.heap.size W := by
  obtain ⟨xs, m, _, e, hcl, hxl, hx⟩ := DataW.trod_array Tryz.underlying339 h
  have hC : Tryz.prog.cellsOf 338 = 1 := by kernel_rfl
  have hC5 : Tryz.prog.cellsOf 339 = 5 := by kernel_rfl
  rw [hC5] at hcl
  rw [hC] at hx
  have hd : tabD5 = .agg (xs.map (·.1)) := congrArg Prod.fst e
  unfold tabD5 at hd
  have hd2 : ([0, 1, 2, 3, 4].map fun k => (DataW.slice ((hrowsP k).map rowD5) [] : DataW Unit)) = xs.map (·.1) := by injection hd
  subst hgg
  have key : ∀ k, k < 5 → ∃ tb tq rc, cs[k]? = some (.slice (some ⟨tb, tq, none⟩) (len (hrowsP k)) rc) ∧ PRows W (some ⟨tb, tq, none⟩) (hrowsP k) := fun k hk => by
    have hxk : k < xs.length := by omega
    have h1 := hx k hk
    rw [List.getElem?_eq_getElem hxk] at h1
    have h2 : (xs[k]'hxk).1 = .slice ((hrowsP k).map rowD5) [] := by
      have h3 : (xs.map (·.1))[k]? = some (xs[k]'hxk).1 := by rw [List.getElem?_map, List.getElem?_eq_getElem hxk]; rfl
      rw [← hd2, List.getElem?_map] at h3
      have h4 : [0, 1, 2, 3, 4][k]? = some k := by
        have : k = 0 ∨ k = 1 ∨ k = 2 ∨ k = 3 ∨ k = 4 := by omega
        rcases this with rfl | rfl | rfl | rfl | rfl <;> rfl
      rw [h4] at h3
      exact (Option.some.inj h3).symm
    have h5 : DataW.trod (fun _ => ()) Tryz.prog W 0 (fun _ => true) false m 338 ((cs.toList.drop (k * 1)).take 1) = some (.slice ((hrowsP k).map rowD5) [], (xs[k]'hxk).2) := by rw [h1, ← h2]
    obtain ⟨tb, tq, rc, hcs, hr⟩ := laid_prows h5 (rowsP_pos k)
    refine ⟨tb, tq, rc, ?_, hr⟩
    have h6 : ((cs.toList.drop (k * 1)).take 1)[0]? = some (.slice (some ⟨tb, tq, none⟩) (len (hrowsP k)) rc) := by rw [hcs]; rfl
    rw [List.getElem?_take, if_pos (by decide), List.getElem?_drop] at h6
    simpa using h6
  have hlt : 5 < W.heap.size := by
    obtain ⟨tb, tq, rc, h1, h2⟩ := key 0 (by decide)
    have := World.var?_cell hg hv 0
    exact lt_of_cell (this.trans h1)
  refine ⟨hlt, Nat.le_refl _, fun k hk => ?_⟩
  obtain ⟨tb, tq, rc, h1, h2⟩ := key k hk
  refine ⟨tb, tq, rc, ?_, (World.var?_cell hg hv k).trans h1, h2⟩
  obtain ⟨b, off, e, hR⟩ := h2 0 (rowsP_pos k)
  cases e
  exact lt_of_cell hR.c0
end Go.Proofs.YtpobhbdomldecaaGreatDoor
namespace Go.Proofs.YtpobhbdomldecaaGreatDoor
set_option linter.unusedSimpArgs false
set_option linter.unusedVariables false
open Go.RowKit Go.ChangeShapes Go.WideShapes Go.ChangeAt
set_option maxRecDepth 100000 in
theorem of_laidHd {W : World} (h : laidMetH Tryz.prog Rows.headerRootsRow.laid W) : PT W.heap.size W := by
  have h' : laidMet Tryz.prog Rows.headerRootsRow.laid W := h
  obtain ⟨ps, ⟨g0, t0, cs0, f0, p0, q0, hg0, ht0, hv0, hd0, _⟩, _⟩ := h'
  obtain rfl : 5 = g0 := Option.some.inj ((show _ = some 5 by kernel_rfl).symm.trans hg0)
  obtain rfl : 339 = t0 := Option.some.inj ((show _ = some 339 by kernel_rfl).symm.trans ht0)
  exact ⟨ptab_of rfl hg0 hv0 hd0, Nat.le_refl _⟩
end Go.Proofs.YtpobhbdomldecaaGreatDoor
namespace Go.Proofs.YtpobhbdomldecaaGreatDoor.hroots
set_option linter.unusedSimpArgs false
set_option linter.unusedVariables false
open Go.RowKit Go.ChangeShapes Go.WideShapes Go.ChangeAt
theorem door_met (os : Os) (args : Array Value) : laidMetH Tryz.prog Rows.headerRootsRow.laid ((World.doorLaid Tryz.prog 72 os).forCall (fun _ _ => 0) ⟨#[], args, []⟩).memory :=
  laidMetH_of_parts3 (fuel := 8) (laidMet_of_run' 8 (by kernel_rfl) (by kernel_rfl)) (by kernel_rfl) (by kernel_rfl)
set_option maxRecDepth 100000 in
theorem lifted (os : Os) (started : os.Started) (H : Type) (enc : TypeId × Value → H) :
    ReturnsInHanded {} Tryz.checked os 3 .any (fun w args => (Rows.headerRootsSpec.pre enc Tryz.prog Tryz.f3 [] false w args ∧ laidMetH Tryz.prog Rows.headerRootsRow.laid w) ∧ sizedMet enc Tryz.prog Tryz.f3 (OpenSpec.ofChange Rows.headerRootsSpec) false w args)
      (Rows.headerRootsSpec.post enc Tryz.prog Tryz.f3 false true false false) := by
  refine returnsInHanded_of_change_and (C := Tryz.checked) (X := fun w _ => laidMetH Tryz.prog Rows.headerRootsRow.laid w) (fun _ _ _ hh h => h.of_heap hh) own started (by kernel_rfl) Tryz.func3
    (ChangeSpec.witness_shaped (enc := enc) (C := Tryz.checked) (os := os) (X := fun w _ => laidMetH Tryz.prog Rows.headerRootsRow.laid w) false (World.doorLaid Tryz.prog 72 os) #[.slice none 0 0, .int .u64 0, .int .u8 0] 8 rfl (World.shaped_of_RefB (by kernel_rfl) (by kernel_rfl)) (by kernel_rfl) (by kernel_rfl) (by kernel_rfl) (door_met os _)) ?_
  intro W base args ds gs before hval0 hW _ _ hL _
  have hval : ∀ (j : Nat) t v, Tryz.f3.params[j]? = some t → args[j]? = some v → Value.okWide Tryz.prog W .any base t v := hval0
  have hW' := hW
  obtain ⟨p, q, hA0, hV, rfl, hfz, hnd⟩ := hW
  have hA : DataW.TrodAll enc Tryz.prog W 0 (fun _ => true) true Tryz.f3.params.toList args.toList ds p := hA0
  rw [Tryz.params3] at hA hval
  have hAA := hA
  obtain ⟨v0, vs0, d0, ds0, p0, q0, hargs, rfl, rfl, h0, r0⟩ := trodAll_cons hA
  obtain ⟨v1, vs1, d1, ds1, p1, q1, rfl, rfl, rfl, h1, r1⟩ := trodAll_cons r0
  obtain ⟨v2, vs2, d2, ds2, p2, q2, rfl, rfl, rfl, h2, r2⟩ := trodAll_cons r1
  obtain ⟨rfl, rfl, rfl⟩ := trodAll_nil r2
  obtain rfl : args = #[v0, v1, v2] := by cases args; simp_all
  obtain ⟨rfl, rfl⟩ := trodVars_none hV
  obtain ⟨a0, c0, l0, rfl, lc0, cm0, o0, k0⟩ := open_hdrs (hval 0 _ _ rfl rfl) h0
  obtain ⟨x1, rfl, _, _, w1⟩ := open_int Tryz.underlying23 (hval 1 _ _ rfl rfl) h1
  have u1 := wf_u64 w1
  obtain ⟨x2, rfl, _, _, w2⟩ := open_int Tryz.underlying5 (hval 2 _ _ rfl rfl) h2
  have u2 := wf_u8 w2
  have hT := of_laidHd hL
  unfold maxLen at cm0
  clear hA0 hval0
  refine (roots23_law W.heap.size l0 a0 c0 x1 x2 W hT (by omega) o0 (fun i => ⟨Nat.le_trans (k0 i).p (by decide), Nat.le_trans (k0 i).t (by decide), Nat.le_trans (k0 i).s (by decide)⟩) (fun i => (k0 i).n) ⟨by omega, by omega⟩ (by omega) (by omega)).mono fun e W' ⟨he, bel⟩ => ?_
  subst he
  have hback := below_trodAll laidOut bel (fun t ht => ⟨by revert t; exact of_decide_eq_true (by kernel_rfl), by revert t; exact of_decide_eq_true (by kernel_rfl)⟩) hAA
  exact ⟨_, rfl, _, _, _, [], _, [], hW', trodAll_mk1 (shut_bool Tryz.underlying4 _), hback, rfl, bel.frame _, fun h => by cases h⟩
end Go.Proofs.YtpobhbdomldecaaGreatDoor.hroots
