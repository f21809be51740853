/- Package wire: laid; numbers, flags, digests as fields. -/
import Derived.Test.YtihiaopilnjonaaGreatDoorWireD
namespace Go.Proofs.YtihiaopilnjonaaGreatDoor
open Go.RowKit
set_option linter.unusedSimpArgs false
set_option linter.unusedVariables false

def LaidIs (fs : List FSpec) (w : World) (e : Ending) (w' : World) : Prop :=
  e = .returned (if allMay fs then .tuple #[.string (layP fs), .int .i64 0] else .tuple #[.string ⟨#[]⟩, .int .i64 2]) ∧ Below w.heap.size w w'
set_option maxRecDepth 100000 in
theorem wlaid_any (B b1 off c : Nat) (W0 : World) (l : List FVal) (fs : List FSpec) (w : World) (hl : Flds w (some ⟨b1, off, none⟩) l) (hn : len l ≤ 1000) (h0 : 0 < len l) (hS : FSems B W0 l fs) (hk : Keep8 B W0 w) (ht : PTab B w) (hs : (layP fs).size ≤ 60000000000000) :
    Calls Tryz.prog 60 #[.slice (some ⟨b1, off, none⟩) (len l) c] w (LaidIs fs w) := by
  have HL := Lib.hid hl
  have HS := Lib.hid hS
  have HK := Lib.hid hk
  have hsz := hk.s1
  have HT := Lib.hid ht
  clear hl hS hk ht
  go_enter Tryz.func60, Tryz.ntmps60
  go_wp2_with fail
  refine (all_any B W0 (some ⟨b1, off, none⟩) c l fs w HL.out hn HS.out HK.out).mono ?_
  rintro e w1 ⟨rfl, hb1⟩
  have HB1 := Lib.hid hb1
  clear hb1
  cases hm : allMay fs with
  | false =>
    have HM := Lib.hid hm
    clear hm
    go_wp2
    go_ret2
    exact ⟨by rw [HM.out]; rfl, HB1.out⟩
  | true =>
    have HM := Lib.hid hm
    have HT1 := Lib.hid (HT.out.keep HB1.out HT.out.size)
    clear hm
    go_wp2_with fail
    refine (pnew_any w1).mono ?_
    rintro e w2 ⟨rfl, hw2, hb2⟩
    have HW2 := Lib.hid hw2
    have HB2 := Lib.hid hb2
    clear hw2 hb2
    go_wp2_with fail
    refine (lay_any B w1.heap.size w1.heap.size b1 off c W0 l fs ByteArray.empty w2 ((HL.out.below HB1.out).below HB2.out) hn h0 HS.out HM.out ((HK.out.next HB1.out).next HB2.out) (by have := HB1.out.size; omega) (HT1.out.keep HB2.out HT1.out.size) HT1.out.size HW2.out (by show 0 + (layP fs).size ≤ 60000000000000; omega)).mono ?_
    rintro e w3 ⟨rfl, hw3, hk3⟩
    have HW3 : Hid (WrB w3 w1.heap.size w1.heap.size (layP fs)) := Lib.hid (by
      have e : ByteArray.empty ++ layP fs = layP fs := ba_ext (by simp)
      rw [e] at hw3; exact hw3)
    have HB3 : Hid (Below w.heap.size w w3) := Lib.hid ((bnext HB1.out HB2.out).trans (hk3.bel.mono HB1.out.size))
    clear hw3 hk3
    go_wp2_with fail
    refine (ptext_any _ _ _ w3 HW3.out).mono ?_
    rintro e w4 ⟨rfl, rfl⟩
    go_wp2
    go_ret2
    exact ⟨by rw [HM.out]; rfl, HB3.out⟩

/-- A cell below B, or of a block that is no row of bytes. -/
structure CellAt (B : Nat) (w : World) (b o : Nat) (x : Value) : Prop where
  cell : w.cell? ⟨b, o, none⟩ = some x
  ex : b < B ∨ ∃ y, w.heap[b]? = some y ∧ Not8 y
theorem CellAt.lt {B : Nat} {w : World} {b o : Nat} {x : Value} (h : CellAt B w b o x) : b < w.heap.size := lt_of_cell h.cell
theorem CellAt.keep {B : Nat} {w w' : World} {b o : Nat} {x : Value} (h : CellAt B w b o x) (hk : Keep8 B w w') : CellAt B w' b o x := by
  have e : w'.heap[b]? = w.heap[b]? := by
    rcases h.ex with h1 | ⟨y, h1, h2⟩
    · exact hk.low b h1
    · rw [h1]; exact hk.keep b y h1 h2
  refine ⟨?_, ?_⟩
  · have : w'.cell? ⟨b, o, none⟩ = w.cell? ⟨b, o, none⟩ := by unfold World.cell?; rw [e]
    rw [this]; exact h.cell
  · rw [e]; exact h.ex
theorem CellAt.below {B : Nat} {w w' : World} {b o : Nat} {x : Value} (h : CellAt B w b o x) (hb : Below w.heap.size w w') : CellAt B w' b o x := by
  have e : w'.heap[b]? = w.heap[b]? := hb.block b h.lt
  refine ⟨?_, by rw [e]; exact h.ex⟩
  have : w'.cell? ⟨b, o, none⟩ = w.cell? ⟨b, o, none⟩ := by unfold World.cell?; rw [e]
  rw [this]; exact h.cell

theorem yes_any (w : World) : Calls Tryz.prog 184 #[] w fun e w' => e = .returned (.bool true) ∧ Below w.heap.size w w' := by
  go_enter Tryz.func184, Tryz.ntmps184
  go_wp2
  go_ret
  exact ⟨rfl, Below.refl _ _⟩

theorem num1_any (B bx pb po : Nat) (n : Int) (w : World) (h1 : CellAt B w bx 0 (.pointer (some ⟨pb, po, none⟩))) (h2 : CellAt B w pb po (.int .u64 n)) : Calls Tryz.prog 183 #[.pointer (some ⟨bx, 0, none⟩)] w fun e w' => e = .returned (.bool (n == 0)) ∧ Below w.heap.size w w' := by
  have c1 := h1.cell
  have c2 := h2.cell
  clear h1 h2
  go_enter Tryz.func183, Tryz.ntmps183
  go_wp2
  go_ret
  exact ⟨rfl, Below.refl _ _⟩
theorem num2_any (B b base bx pb po : Nat) (n : Int) (s : ByteArray) (w : World) (h1 : CellAt B w bx 0 (.pointer (some ⟨pb, po, none⟩))) (h2 : CellAt B w pb po (.int .u64 n)) (h0 : 0 ≤ n) (hn : n ≤ 18446744073709551615) (ht : PTab B w) (hB : B ≤ base) (hW : WrB w b base s) (hs : s.size + (numP n).size ≤ 60000000000000) :
    Calls Tryz.prog 185 #[.pointer (some ⟨b, 0, none⟩), .pointer (some ⟨bx, 0, none⟩)] w fun e w' => e = .returned (.tuple #[]) ∧ WrB w' b base (s ++ numP n) ∧ WK base b w w' := by
  have c1 := h1.cell
  have c2 := h2.cell
  have H := Lib.hid (Num_w B b base n s w ht hB hW h0 hn (by omega))
  clear h1 h2 ht hW
  go_enter Tryz.func185, Tryz.ntmps185
  go_wp2_with fail
  refine H.out.mono ?_
  rintro e w' ⟨rfl, h3, h4⟩
  have H3 := Lib.hid h3
  have H4 := Lib.hid h4
  clear h3 h4
  go_wp2
  go_end0
  exact ⟨rfl, H3.out, H4.out⟩
theorem cellAt_new {B : Nat} {w : World} {n : Nat} {cs : Array Value} {T : TypeId} {o : Nat} {x : Value} (h : w.heap[n]? = some (.cells cs T (0, 0))) (hT : T ≠ 5) (hx : cs[o]? = some x) : CellAt B w n o x := ⟨by rw [block_cell h]; exact hx, .inr ⟨_, h, not8_cells hT⟩⟩
theorem flag1_any (B bx pb po : Nat) (q : Bool) (w : World) (h1 : CellAt B w bx 0 (.pointer (some ⟨pb, po, none⟩))) (h2 : CellAt B w pb po (.bool q)) : Calls Tryz.prog 187 #[.pointer (some ⟨bx, 0, none⟩)] w fun e w' => e = .returned (.bool (!q)) ∧ Below w.heap.size w w' := by
  have c1 := h1.cell
  have c2 := h2.cell
  clear h1 h2
  go_enter Tryz.func187, Tryz.ntmps187
  go_wp2
  go_ret
  exact ⟨rfl, Below.refl _ _⟩
theorem flag2_any (B b base : Nat) (s : ByteArray) (w : World) (ht : PTab B w) (hB : B ≤ base) (hW : WrB w b base s) (hs : s.size + (numP 1).size ≤ 60000000000000) :
    Calls Tryz.prog 188 #[.pointer (some ⟨b, 0, none⟩)] w fun e w' => e = .returned (.tuple #[]) ∧ WrB w' b base (s ++ numP 1) ∧ WK base b w w' := by
  have H := Lib.hid (Num_w B b base 1 s w ht hB hW (by decide) (by decide) (by omega))
  clear ht hW
  go_enter Tryz.func188, Tryz.ntmps188
  go_wp2_with fail
  refine H.out.mono ?_
  rintro e w' ⟨rfl, h3, h4⟩
  have H3 := Lib.hid h3
  have H4 := Lib.hid h4
  clear h3 h4
  go_wp2
  go_end0
  exact ⟨rfl, H3.out, H4.out⟩
theorem digest1_any (w : World) : Calls Tryz.prog 190 #[] w fun e w' => e = .returned (.bool false) ∧ Below w.heap.size w w' := by
  go_enter Tryz.func190, Tryz.ntmps190
  go_wp2
  go_ret
  exact ⟨rfl, Below.refl _ _⟩
theorem digest2_any (B bx pb po : Nat) (x : ByteArray) (w : World) (h1 : CellAt B w bx 0 (.pointer (some ⟨pb, po, none⟩))) (h2 : CellAt B w pb po (.string x)) (hx : x.size ≤ 9223372036854775807) : Calls Tryz.prog 191 #[.pointer (some ⟨bx, 0, none⟩)] w fun e w' => e = .returned (.bool (decide (x.size = 32))) ∧ Below w.heap.size w w' := by
  have c1 := h1.cell
  have c2 := h2.cell
  have HE : Hid (((x.size : Int) == 32) = decide (x.size = 32)) := Lib.hid (by rw [Bool.eq_iff_iff]; simp; omega)
  clear h1 h2
  go_enter Tryz.func191, Tryz.ntmps191
  go_wp2
  go_ret
  exact ⟨ret_bool HE.out, Below.refl _ _⟩
theorem digest3_any (B b base bx pb po : Nat) (x s : ByteArray) (w : World) (h1 : CellAt B w bx 0 (.pointer (some ⟨pb, po, none⟩))) (h2 : CellAt B w pb po (.string x)) (hx : x.size = 32) (ht : PTab B w) (hB : B ≤ base) (hW : WrB w b base s) (hs : s.size + (binP x).size ≤ 60000000000000) :
    Calls Tryz.prog 192 #[.pointer (some ⟨b, 0, none⟩), .pointer (some ⟨bx, 0, none⟩)] w fun e w' => e = .returned (.tuple #[]) ∧ WrB w' b base (s ++ binP x) ∧ WK base b w w' := by
  have c1 := h1.cell
  have c2 := h2.cell
  have H := Lib.hid (Bin_w B b base x s w ht hB hW (by omega) (by omega))
  clear h1 h2 ht hW hx
  go_enter Tryz.func192, Tryz.ntmps192
  go_wp2_with fail
  refine H.out.mono ?_
  rintro e w' ⟨rfl, h3, h4⟩
  have H3 := Lib.hid h3
  have H4 := Lib.hid h4
  clear h3 h4
  go_wp2
  go_end0
  exact ⟨rfl, H3.out, H4.out⟩
set_option maxRecDepth 100000 in
theorem fnum_any (B : Nat) (key : ByteArray) (pb po : Nat) (n : Int) (w : World) (hk : key.size < 65536) (hBw : B ≤ w.heap.size) (hc : CellAt B w pb po (.int .u64 n)) (h0 : 0 ≤ n) (h1 : n ≤ 18446744073709551615) :
    Calls Tryz.prog 109 #[.string key, .pointer (some ⟨pb, po, none⟩)] w fun e w' => ∃ v : FVal, e = .returned v.val ∧ FSem B w' v ⟨key, false, n == 0, true, numP n⟩ ∧ Below w.heap.size w w' := by
  have HC := Lib.hid hc
  clear hc
  go_enter Tryz.func109, Tryz.ntmps109
  go_wp2
  obtain ⟨bx, hbx⟩ : ∃ bx, w.heap.size = bx := ⟨_, rfl⟩
  obtain ⟨V, hV⟩ : ∃ V, ((w.alloc (.cells #[.pointer (some ⟨pb, po, none⟩)] 177)).alloc (.cells #[.string key, .bool false, .func (.func 183) #[] #[.pointer (some ⟨w.heap.size, 0, none⟩)], .func (.func 184) #[] #[], .func (.func 185) #[] #[.pointer (some ⟨w.heap.size, 0, none⟩)], .func (.func 186) #[] #[.pointer (some ⟨w.heap.size, 0, none⟩)]] 172)) = V := ⟨_, rfl⟩
  have VB : Below w.heap.size w V := by rw [← hV]; (repeat (first | exact Below.refl _ _ | assumption | (refine bdrew ?_) | (refine bdrewN ?_ _) | (refine balloc ?_ _) | (refine bset ?_ (by first | omega | (simp; done) | (simp; omega)) _) | (refine bnext ?_ (by assumption))))
  have V0 : V.heap[bx]? = some (.cells #[.pointer (some ⟨pb, po, none⟩)] 177 (0, 0)) := by rw [← hV, ← hbx]; exact block_alloc (heap_alloc_new _ _) _
  have V1 : V.heap[bx + 1]? = some (.cells #[.string key, .bool false, .func (.func 183) #[] #[.pointer (some ⟨bx, 0, none⟩)], .func (.func 184) #[] #[], .func (.func 185) #[] #[.pointer (some ⟨bx, 0, none⟩)], .func (.func 186) #[] #[.pointer (some ⟨bx, 0, none⟩)]] 172 (0, 0)) := by rw [← hV, ← hbx]; exact alloc_new_at _ (by simp)
  have d : ∀ o, V.cell? ⟨bx + 1, o, none⟩ = _ := block_cell V1
  rw [hV]
  simp only [hbx]
  clear hV
  have C0 : CellAt B V bx 0 (.pointer (some ⟨pb, po, none⟩)) := cellAt_new V0 (by decide) rfl
  have C1 : CellAt B V pb po (.int .u64 n) := HC.out.below VB
  refine bodyPost_ret (v := .agg #[.string key, .bool false, .func (.func 183) #[] #[.pointer (some ⟨bx, 0, none⟩)], .func (.func 184) #[] #[], .func (.func 185) #[] #[.pointer (some ⟨bx, 0, none⟩)], .func (.func 186) #[] #[.pointer (some ⟨bx, 0, none⟩)]]) ?_ rfl ⟨⟨key, false, 183, #[.pointer (some ⟨bx, 0, none⟩)], 184, #[], 185, #[.pointer (some ⟨bx, 0, none⟩)], 186, #[.pointer (some ⟨bx, 0, none⟩)]⟩, rfl, ?_, by rw [← hbx]; exact VB⟩
  · simp [results, Tryz.results109, go_sem, d]
  · refine ⟨rfl, rfl, hk, enters_of Tryz.func183 (by kernel_rfl) rfl, enters_of Tryz.func184 (by kernel_rfl) rfl, enters_of Tryz.func185 (by kernel_rfl) rfl, fun w' hw => num1_any B bx pb po n w' (C0.keep hw) (C1.keep hw), fun w' hw => yes_any w', fun hm he w' b base s hw hb ht hB hW hs => num2_any B b base bx pb po n s w' (C0.keep hw) (C1.keep hw) h0 h1 ht hB hW hs⟩
set_option maxRecDepth 100000 in
theorem fflag_any (B : Nat) (key : ByteArray) (pb po : Nat) (q : Bool) (w : World) (hk : key.size < 65536) (hBw : B ≤ w.heap.size) (hc : CellAt B w pb po (.bool q)) :
    Calls Tryz.prog 110 #[.string key, .pointer (some ⟨pb, po, none⟩)] w fun e w' => ∃ v : FVal, e = .returned v.val ∧ FSem B w' v ⟨key, false, !q, true, numP 1⟩ ∧ Below w.heap.size w w' := by
  have HC := Lib.hid hc
  clear hc
  go_enter Tryz.func110, Tryz.ntmps110
  go_wp2
  obtain ⟨bx, hbx⟩ : ∃ bx, w.heap.size = bx := ⟨_, rfl⟩
  obtain ⟨V, hV⟩ : ∃ V, ((w.alloc (.cells #[.pointer (some ⟨pb, po, none⟩)] 179)).alloc (.cells #[.string key, .bool false, .func (.func 187) #[] #[.pointer (some ⟨w.heap.size, 0, none⟩)], .func (.func 184) #[] #[], .func (.func 188) #[] #[], .func (.func 189) #[] #[.pointer (some ⟨w.heap.size, 0, none⟩)]] 172)) = V := ⟨_, rfl⟩
  have VB : Below w.heap.size w V := by rw [← hV]; (repeat (first | exact Below.refl _ _ | assumption | (refine bdrew ?_) | (refine bdrewN ?_ _) | (refine balloc ?_ _) | (refine bset ?_ (by first | omega | (simp; done) | (simp; omega)) _) | (refine bnext ?_ (by assumption))))
  have V0 : V.heap[bx]? = some (.cells #[.pointer (some ⟨pb, po, none⟩)] 179 (0, 0)) := by rw [← hV, ← hbx]; exact block_alloc (heap_alloc_new _ _) _
  have V1 : V.heap[bx + 1]? = some (.cells #[.string key, .bool false, .func (.func 187) #[] #[.pointer (some ⟨bx, 0, none⟩)], .func (.func 184) #[] #[], .func (.func 188) #[] #[], .func (.func 189) #[] #[.pointer (some ⟨bx, 0, none⟩)]] 172 (0, 0)) := by rw [← hV, ← hbx]; exact alloc_new_at _ (by simp)
  have d : ∀ o, V.cell? ⟨bx + 1, o, none⟩ = _ := block_cell V1
  rw [hV]
  simp only [hbx]
  clear hV
  have C0 : CellAt B V bx 0 (.pointer (some ⟨pb, po, none⟩)) := cellAt_new V0 (by decide) rfl
  have C1 : CellAt B V pb po (.bool q) := HC.out.below VB
  refine bodyPost_ret (v := .agg #[.string key, .bool false, .func (.func 187) #[] #[.pointer (some ⟨bx, 0, none⟩)], .func (.func 184) #[] #[], .func (.func 188) #[] #[], .func (.func 189) #[] #[.pointer (some ⟨bx, 0, none⟩)]]) ?_ rfl ⟨⟨key, false, 187, #[.pointer (some ⟨bx, 0, none⟩)], 184, #[], 188, #[], 189, #[.pointer (some ⟨bx, 0, none⟩)]⟩, rfl, ?_, by rw [← hbx]; exact VB⟩
  · simp [results, Tryz.results110, go_sem, d]
  · refine ⟨rfl, rfl, hk, enters_of Tryz.func187 (by kernel_rfl) rfl, enters_of Tryz.func184 (by kernel_rfl) rfl, enters_of Tryz.func188 (by kernel_rfl) rfl, fun w' hw => flag1_any B bx pb po q w' (C0.keep hw) (C1.keep hw), fun w' hw => yes_any w', fun hm he w' b base s hw hb ht hB hW hs => flag2_any B b base s w' ht hB hW hs⟩
set_option maxRecDepth 100000 in
theorem fdigest_any (B : Nat) (key : ByteArray) (pb po : Nat) (x : ByteArray) (w : World) (hk : key.size < 65536) (hBw : B ≤ w.heap.size) (hc : CellAt B w pb po (.string x)) (hx : x.size ≤ 9223372036854775807) :
    Calls Tryz.prog 111 #[.string key, .pointer (some ⟨pb, po, none⟩)] w fun e w' => ∃ v : FVal, e = .returned v.val ∧ FSem B w' v ⟨key, true, false, decide (x.size = 32), binP x⟩ ∧ Below w.heap.size w w' := by
  have HC := Lib.hid hc
  clear hc
  go_enter Tryz.func111, Tryz.ntmps111
  go_wp2
  obtain ⟨bx, hbx⟩ : ∃ bx, w.heap.size = bx := ⟨_, rfl⟩
  obtain ⟨V, hV⟩ : ∃ V, ((w.alloc (.cells #[.pointer (some ⟨pb, po, none⟩)] 181)).alloc (.cells #[.string key, .bool true, .func (.func 190) #[] #[], .func (.func 191) #[] #[.pointer (some ⟨w.heap.size, 0, none⟩)], .func (.func 192) #[] #[.pointer (some ⟨w.heap.size, 0, none⟩)], .func (.func 194) #[] #[.pointer (some ⟨w.heap.size, 0, none⟩)]] 172)) = V := ⟨_, rfl⟩
  have VB : Below w.heap.size w V := by rw [← hV]; (repeat (first | exact Below.refl _ _ | assumption | (refine bdrew ?_) | (refine bdrewN ?_ _) | (refine balloc ?_ _) | (refine bset ?_ (by first | omega | (simp; done) | (simp; omega)) _) | (refine bnext ?_ (by assumption))))
  have V0 : V.heap[bx]? = some (.cells #[.pointer (some ⟨pb, po, none⟩)] 181 (0, 0)) := by rw [← hV, ← hbx]; exact block_alloc (heap_alloc_new _ _) _
  have V1 : V.heap[bx + 1]? = some (.cells #[.string key, .bool true, .func (.func 190) #[] #[], .func (.func 191) #[] #[.pointer (some ⟨bx, 0, none⟩)], .func (.func 192) #[] #[.pointer (some ⟨bx, 0, none⟩)], .func (.func 194) #[] #[.pointer (some ⟨bx, 0, none⟩)]] 172 (0, 0)) := by rw [← hV, ← hbx]; exact alloc_new_at _ (by simp)
  have d : ∀ o, V.cell? ⟨bx + 1, o, none⟩ = _ := block_cell V1
  rw [hV]
  simp only [hbx]
  clear hV
  have C0 : CellAt B V bx 0 (.pointer (some ⟨pb, po, none⟩)) := cellAt_new V0 (by decide) rfl
  have C1 : CellAt B V pb po (.string x) := HC.out.below VB
  refine bodyPost_ret (v := .agg #[.string key, .bool true, .func (.func 190) #[] #[], .func (.func 191) #[] #[.pointer (some ⟨bx, 0, none⟩)], .func (.func 192) #[] #[.pointer (some ⟨bx, 0, none⟩)], .func (.func 194) #[] #[.pointer (some ⟨bx, 0, none⟩)]]) ?_ rfl ⟨⟨key, true, 190, #[], 191, #[.pointer (some ⟨bx, 0, none⟩)], 192, #[.pointer (some ⟨bx, 0, none⟩)], 194, #[.pointer (some ⟨bx, 0, none⟩)]⟩, rfl, ?_, by rw [← hbx]; exact VB⟩
  · simp [results, Tryz.results111, go_sem, d]
  · refine ⟨rfl, rfl, hk, enters_of Tryz.func190 (by kernel_rfl) rfl, enters_of Tryz.func191 (by kernel_rfl) rfl, enters_of Tryz.func192 (by kernel_rfl) rfl, fun w' hw => digest1_any w', fun w' hw => digest2_any B bx pb po x w' (C0.keep hw) (C1.keep hw) hx, fun hm he w' b base s hw hb ht hB hW hs => digest3_any B b base bx pb po x s w' (C0.keep hw) (C1.keep hw) (by simpa using hm) ht hB hW hs⟩
end Go.Proofs.YtihiaopilnjonaaGreatDoor
