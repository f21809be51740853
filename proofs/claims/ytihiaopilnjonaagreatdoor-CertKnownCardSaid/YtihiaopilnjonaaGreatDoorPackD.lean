/- Package pack: many, whole, Num, Bin, Str, List, Map, New, Text. -/
import Derived.Test.YtihiaopilnjonaaGreatDoorPackC
import Derived.Test.YtihiaopilnjonaaGreatDoorWireP
import Derived.Laws.BytesArg
namespace Go.Proofs.YtihiaopilnjonaaGreatDoor
open Go.RowKit
set_option linter.unusedSimpArgs false
set_option linter.unusedVariables false

def LaidOut (s' : ByteArray) (b base : Nat) (w : World) (e : Ending) (w' : World) : Prop := e = .returned (.int .i64 0) ∧ WrB w' b base s' ∧ WK base b w w'

theorem many_any (B b base sort n : Nat) (s : ByteArray) (w : World) (ht : PTab B w) (hB : B ≤ base) (hW : WrB w b base s) (h5 : sort < 5) (hn : n < 65536) (hs : s.size ≤ 70000000000000) :
    Calls Tryz.prog 239 #[.pointer (some ⟨b, 0, none⟩), .int .i64 sort, .int .i64 n] w (LaidOut (s ++ baL (headP sort n)) b base w) := by
  have H := Lib.hid (phead_any B b base sort n s w ht hB hW h5 (by omega) (by omega) hs)
  have i1 : decide ((65536 : Int) ≤ (n : Int)) = false := decide_eq_false (by omega)
  have i2 : IntKind.u64.wrap (n : Int) = n := IntWalk.u64_in _ (by omega)
  clear ht hW
  go_enter Tryz.func239, Tryz.ntmps239
  go_wp2_with fail
  refine H.out.mono ?_
  rintro e w' ⟨rfl, h1, h2⟩
  have H1 := Lib.hid h1
  have H2 := Lib.hid h2
  clear h1 h2
  go_wp2
  go_ret
  exact ⟨rfl, H1.out, H2.out⟩
set_option maxRecDepth 100000 in
theorem whole_any (B b base sort : Nat) (t s : ByteArray) (w : World) (ht : PTab B w) (hB : B ≤ base) (hW : WrB w b base s) (h5 : sort < 5) (hn : t.size < 65536) (hs : s.size ≤ 70000000000000) :
    Calls Tryz.prog 240 #[.pointer (some ⟨b, 0, none⟩), .int .i64 sort, .string t] w (LaidOut (s ++ (baL (headP sort t.size) ++ t)) b base w) := by
  have H := Lib.hid (many_any B b base sort t.size s w ht hB hW h5 hn hs)
  have HBS : Hid (base ≤ w.heap.size) := Lib.hid (by have := hW.1; have := hW.lt; omega)
  obtain ⟨i0, hi, hz0, hz1, hz2⟩ := info_parts info_u8
  clear ht hW
  go_enter Tryz.func240, Tryz.ntmps240
  go_wp2_with fail
  refine H.out.mono ?_
  rintro e w1 ⟨rfl, h1, h2⟩
  obtain ⟨s1, hs1⟩ : ∃ s1, s ++ baL (headP sort t.size) = s1 := ⟨_, rfl⟩
  have hl2 : s1.size ≤ 70000000000009 := by have hl := headP_len sort t.size; rw [← hs1, ByteArray.size_append, baL_size]; omega
  have HS1 : Hid (s ++ (baL (headP sort t.size) ++ t) = s1 ++ t) := Lib.hid (by rw [← hs1, ByteArray.append_assoc])
  rw [hs1] at h1
  clear hs1
  obtain ⟨hb, v, hv, hown⟩ := h1
  have HV := Lib.hid hv
  have HOWN := Lib.hid hown
  have H2 := Lib.hid h2
  have cb := block_cell hv 0
  simp only [List.getElem?_toArray, List.getElem?_cons_zero] at cb
  clear hv hown h2
  go_wp2_with (at_builtin; refine Lib.wpList_append_own_string _ rfl _ _ 106 9 rfl base 5 i0 Tryz.underlying106 Tryz.underlying9 hi hz0 hz1 hz2 _ _ _ rfl HOWN.out t rfl (by unfold maxLen; omega) (by omega) (by have := HBS.out; have := H2.out.bel.size; omega) ?_)
  intro v' w2 hown' hgrow _
  have hst := wr_step (s' := s1 ++ t) hb HV.out HOWN.out (w1 := w2) ⟨hgrow.os, hgrow.tape, hgrow.output, hgrow.size, hgrow.block⟩ (v' := v') (ys := Lib.strCells s1 ++ Lib.strCells t) (by rw [ByteArray.size_append]; exact hown') (by rw [← strCells_app])
  have HST := Lib.hid hst
  have hc4 := hst.1
  have hf4 := hst.2.1
  have hsl : ∃ g cap, v' = .slice (some ⟨g, 0, none⟩) (s1.size + t.size) cap ∨ v' = .slice none 0 0 := by
    rcases hown'.2 with ⟨h, _⟩ | ⟨g, cap, cur, h, _⟩
    · exact ⟨0, 0, .inr h⟩
    · exact ⟨g, cap, .inl h⟩
  clear hst hown' hgrow
  obtain ⟨ga, gc, rfl | rfl⟩ := hsl
  · go_wp2
    go_ret
    exact ⟨rfl, by rw [HS1.out]; exact HST.out.2.2.1, H2.out.trans HST.out.2.2.2⟩
  · go_wp2
    go_ret
    exact ⟨rfl, by rw [HS1.out]; exact HST.out.2.2.1, H2.out.trans HST.out.2.2.2⟩
theorem Num_w (B b base : Nat) (n : Int) (s : ByteArray) (w : World) (ht : PTab B w) (hB : B ≤ base) (hW : WrB w b base s) (h0 : 0 ≤ n) (h1 : n ≤ 18446744073709551615) (hs : s.size ≤ 70000000000000) :
    Calls Tryz.prog 149 #[.pointer (some ⟨b, 0, none⟩), .int .u64 n] w (LaidOut (s ++ numP n) b base w) := by
  have H := Lib.hid (phead_any B b base 0 n s w ht hB hW (by decide) h0 h1 hs)
  clear ht hW
  go_enter Tryz.func149, Tryz.ntmps149
  go_wp2_with fail
  refine H.out.mono ?_
  rintro e w' ⟨rfl, h1, h2⟩
  have H1 := Lib.hid h1
  have H2 := Lib.hid h2
  clear h1 h2
  go_wp2
  go_ret
  have e : numP n = baL (headP 0 n) := by unfold numP laidP; exact ba_ext (by simp)
  exact ⟨rfl, by rw [e]; exact H1.out, H2.out⟩
theorem Str_w (B b base : Nat) (t s : ByteArray) (w : World) (ht : PTab B w) (hB : B ≤ base) (hW : WrB w b base s) (hn : t.size < 65536) (hs : s.size ≤ 70000000000000) :
    Calls Tryz.prog 176 #[.pointer (some ⟨b, 0, none⟩), .string t] w (LaidOut (s ++ strP t) b base w) := by
  have H := Lib.hid (whole_any B b base 2 t s w ht hB hW (by decide) hn hs)
  clear ht hW
  go_enter Tryz.func176, Tryz.ntmps176
  go_wp2_with fail
  refine H.out.mono ?_
  rintro e w' ⟨rfl, h1, h2⟩
  have H1 := Lib.hid h1
  have H2 := Lib.hid h2
  clear h1 h2
  go_wp2
  go_ret
  exact ⟨rfl, H1.out, H2.out⟩
theorem Bin_w (B b base : Nat) (t s : ByteArray) (w : World) (ht : PTab B w) (hB : B ≤ base) (hW : WrB w b base s) (hn : t.size < 65536) (hs : s.size ≤ 70000000000000) :
    Calls Tryz.prog 193 #[.pointer (some ⟨b, 0, none⟩), .string t] w (LaidOut (s ++ binP t) b base w) := by
  have H := Lib.hid (whole_any B b base 1 t s w ht hB hW (by decide) hn hs)
  clear ht hW
  go_enter Tryz.func193, Tryz.ntmps193
  go_wp2_with fail
  refine H.out.mono ?_
  rintro e w' ⟨rfl, h1, h2⟩
  have H1 := Lib.hid h1
  have H2 := Lib.hid h2
  clear h1 h2
  go_wp2
  go_ret
  exact ⟨rfl, H1.out, H2.out⟩
theorem List_w (B b base n : Nat) (s : ByteArray) (w : World) (ht : PTab B w) (hB : B ≤ base) (hW : WrB w b base s) (hn : n < 65536) (hs : s.size ≤ 70000000000000) :
    Calls Tryz.prog 219 #[.pointer (some ⟨b, 0, none⟩), .int .i64 n] w (LaidOut (s ++ listP n) b base w) := by
  have H := Lib.hid (many_any B b base 3 n s w ht hB hW (by decide) hn hs)
  clear ht hW
  go_enter Tryz.func219, Tryz.ntmps219
  go_wp2_with fail
  refine H.out.mono ?_
  rintro e w' ⟨rfl, h1, h2⟩
  have H1 := Lib.hid h1
  have H2 := Lib.hid h2
  clear h1 h2
  go_wp2
  go_ret
  have e : listP n = baL (headP 3 n) := by unfold listP laidP; exact ba_ext (by simp)
  exact ⟨rfl, by rw [e]; exact H1.out, H2.out⟩
theorem Map_w (B b base n : Nat) (s : ByteArray) (w : World) (ht : PTab B w) (hB : B ≤ base) (hW : WrB w b base s) (hn : n < 65536) (hs : s.size ≤ 70000000000000) :
    Calls Tryz.prog 175 #[.pointer (some ⟨b, 0, none⟩), .int .i64 n] w (LaidOut (s ++ mapP n) b base w) := by
  have H := Lib.hid (many_any B b base 4 n s w ht hB hW (by decide) hn hs)
  clear ht hW
  go_enter Tryz.func175, Tryz.ntmps175
  go_wp2_with fail
  refine H.out.mono ?_
  rintro e w' ⟨rfl, h1, h2⟩
  have H1 := Lib.hid h1
  have H2 := Lib.hid h2
  clear h1 h2
  go_wp2
  go_ret
  have e : mapP n = baL (headP 4 n) := by unfold mapP laidP; exact ba_ext (by simp)
  exact ⟨rfl, by rw [e]; exact H1.out, H2.out⟩
theorem strNums (s : ByteArray) : strOfNums (s.data.toList.map fun b => (b.toNat : Int)) = s := by
  refine ba_ext ?_
  rw [strOfNums_data, List.map_map]
  conv => rhs; rw [← List.map_id s.data.toList]
  refine List.map_congr_left fun x _ => ?_
  simp
set_option maxRecDepth 100000 in
theorem ptext_any (b base : Nat) (s : ByteArray) (w : World) (hW : WrB w b base s) : Calls Tryz.prog 106 #[.pointer (some ⟨b, 0, none⟩)] w fun e w' => e = .returned (.string s) ∧ w = w' := by
  obtain ⟨hb, v, hv, hown⟩ := hW
  have cb := block_cell hv 0
  simp only [List.getElem?_toArray, List.getElem?_cons_zero] at cb
  have hc : ∀ t, Tryz.prog.underlying t = some .string → (convert 106 t v).run Tryz.prog w = .ok (.string s) w := by
    intro t ht
    rcases hown.2 with ⟨rfl, h0⟩ | ⟨g, cap, cur, rfl, _, _, _, _, _, _⟩
    · have e : s = ByteArray.empty := ba_ext (by
        have : s.data.toList.length = 0 := by rw [ba_len]; exact h0
        rw [List.eq_nil_of_length_eq_zero this]; rfl)
      rw [e]
      exact run_convert_bytes_nil w 106 5 Tryz.underlying106 Tryz.underlying5 0 0 t ht
    · have h := run_convert_bytes_arg (P := Tryz.prog) w 106 5 Tryz.underlying106 Tryz.underlying5 g 0 s.size cap (s.data.toList.map fun b => (b.toNat : Int)) (by rw [List.length_map, ba_len]) (fun i hi => by
        have h1 := hown.cellAt i (by omega)
        rw [Nat.zero_add, h1]
        have hi2 : i < s.data.toList.length := by rw [ba_len]; exact hi
        unfold Lib.strCells
        rw [List.getElem?_map, List.getElem?_eq_getElem hi2, List.getD_eq_getElem?_getD, List.getElem?_map, List.getElem?_eq_getElem hi2]; rfl) t ht
      rw [strNums] at h; exact h
  have hcv := hc 9 Tryz.underlying9
  clear hc hown hv
  go_enter Tryz.func106, Tryz.ntmps106
  go_wp2
  go_ret
  exact ⟨rfl, rfl⟩
theorem pnew_any (w : World) : Calls Tryz.prog 104 #[] w fun e w' => e = .returned (.pointer (some ⟨w.heap.size, 0, none⟩)) ∧ WrB w' w.heap.size w.heap.size ByteArray.empty ∧ Below w.heap.size w w' := by
  go_enter Tryz.func104, Tryz.ntmps104
  go_wp2
  go_ret
  exact ⟨rfl, ⟨Nat.le_refl _, .slice none 0 0, heap_alloc_new _ _, World.ownsRow_nil _ _ _ _⟩, by (repeat (first | exact Below.refl _ _ | assumption | (refine bdrew ?_) | (refine bdrewN ?_ _) | (refine balloc ?_ _) | (refine bset ?_ (by first | omega | (simp; done) | (simp; omega)) _) | (refine bnext ?_ (by assumption))))⟩
end Go.Proofs.YtihiaopilnjonaaGreatDoor
