/- The statements of layer 6: what is taken, by sorts. -/
import Derived.Test.YtmcmapcijncblaaDoorUnpE
namespace Go.Proofs.YtmcmapcijncblaaDoor
open Go.RowKit

def rowsOf (sort : Nat) : List URow := match sort with | 1 => binsL | 2 => strsL | 3 => listsL | 4 => pairsL | _ => numsL
/-- What is taken at a place: an error's number; or the number, the bytes, the place behind. -/
def takeOf (sort : Nat) (s : ByteArray) (a : Nat) (most : Int) : Except Int (Int × ByteArray × Nat) :=
  match headOf (s.extract a s.size) (rowsOf sort) with
  | .error k => .error k
  | .ok (n, rest) =>
    if sort ≠ 0 ∧ most < n then .error 3
    else if sort = 1 ∨ sort = 2 then (if (rest.size : Int) < n then .error 4 else .ok (n, rest.extract 0 n.toNat, s.size - (rest.size - n.toNat)))
    else .ok (n, ⟨#[]⟩, s.size - rest.size)

def TakeIs (res : Except Int (Int × ByteArray × Nat)) (b : Nat) (s : ByteArray) (most : Int) (a : Nat) (w : World) (e : Ending) (w' : World) : Prop :=
  ExtB (some b) w w' ∧ match res with
    | .ok x => e = .returned (.tuple #[.int .u64 x.1, .string x.2.1, .nilIface]) ∧ RdB w' b s x.2.2 most
    | .error k => RdB w' b s a most ∧ ∃ f, e = .returned (.tuple #[.int .u64 0, .string ⟨#[]⟩, .iface 61 (.pointer (some ⟨f, 0, none⟩))]) ∧ w.heap.size ≤ f ∧ FltB w' f k a

theorem textOf_is {s : ByteArray} {a : Nat} {most : Int} {sort : Nat} (h : sort = 1 ∨ sort = 2) :
    (∃ k, textOf s a most (rowsOf sort) = .error k ∧ takeOf sort s a most = .error k) ∨
    (∃ (n : Nat) (t : ByteArray) (a' : Nat), textOf s a most (rowsOf sort) = .ok (.string t, a') ∧ takeOf sort s a most = .ok ((n : Int), t, a') ∧ t.size = n ∧ (n : Int) ≤ most) := by
  have h0 : sort ≠ 0 := by omega
  unfold textOf takeOf
  cases hh : headOf (s.extract a s.size) (rowsOf sort) with
  | error k => exact .inl ⟨k, rfl, rfl⟩
  | ok x =>
    obtain ⟨n, rest⟩ := x
    have hb := head_bd (by rcases h with rfl | rfl; exact binsL_ok; exact strsL_ok) hh
    by_cases h1 : most < n
    · exact .inl ⟨3, by simp only [if_pos h1], by simp only [if_pos (And.intro h0 h1)]⟩
    · by_cases h2 : (rest.size : Int) < n
      · exact .inl ⟨4, by simp only [if_neg h1, if_pos h2], by simp only [if_neg (fun e : sort ≠ 0 ∧ most < n => h1 e.2), if_pos h, if_pos h2]⟩
      · refine .inr ⟨n.toNat, rest.extract 0 n.toNat, s.size - (rest.size - n.toNat), by simp only [if_neg h1, if_neg h2], ?_, by rw [ByteArray.size_extract]; omega, by omega⟩
        simp only [if_neg (fun e : sort ≠ 0 ∧ most < n => h1 e.2), if_pos h, if_neg h2]
        rw [show ((n.toNat : Nat) : Int) = n by omega]
theorem countOf_is {s : ByteArray} {a : Nat} {most : Int} {sort : Nat} (h : sort = 3 ∨ sort = 4) :
    (∃ k, countOf s a most (rowsOf sort) = .error k ∧ takeOf sort s a most = .error k) ∨
    (∃ (n : Nat) (a' : Nat), countOf s a most (rowsOf sort) = .ok (.int .i64 n, a') ∧ takeOf sort s a most = .ok ((n : Int), ⟨#[]⟩, a') ∧ (n : Int) ≤ most) := by
  have h0 : sort ≠ 0 := by omega
  have h3 : ¬ (sort = 1 ∨ sort = 2) := by omega
  unfold countOf takeOf
  cases hh : headOf (s.extract a s.size) (rowsOf sort) with
  | error k => exact .inl ⟨k, rfl, rfl⟩
  | ok x =>
    obtain ⟨n, rest⟩ := x
    have hb := head_bd (by rcases h with rfl | rfl; exact listsL_ok; exact pairsL_ok) hh
    by_cases h1 : most < n
    · exact .inl ⟨3, by simp only [if_pos h1], by simp only [if_pos (And.intro h0 h1)]⟩
    · refine .inr ⟨n.toNat, s.size - rest.size, ?_, ?_, by omega⟩
      · simp only [if_neg h1]; rw [show ((n.toNat : Nat) : Int) = n by omega]
      · simp only [if_neg (fun e : sort ≠ 0 ∧ most < n => h1 e.2), if_neg h3]; rw [show ((n.toNat : Nat) : Int) = n by omega]
theorem numOf_is {s : ByteArray} {a : Nat} {most : Int} :
    (∃ k, numOf s a numsL = .error k ∧ takeOf 0 s a most = .error k) ∨
    (∃ (n : Int) (a' : Nat), numOf s a numsL = .ok (.int .u64 n, a') ∧ takeOf 0 s a most = .ok (n, ⟨#[]⟩, a')) := by
  unfold numOf takeOf
  have e : rowsOf 0 = numsL := rfl
  rw [e]
  cases hh : headOf (s.extract a s.size) numsL with
  | error k => exact .inl ⟨k, rfl, rfl⟩
  | ok x =>
    obtain ⟨n, rest⟩ := x
    exact .inr ⟨n, s.size - rest.size, rfl, by simp⟩

set_option maxRecDepth 100000 in
set_option maxHeartbeats 2000000 in
theorem take_any (w : World) (B b : Nat) (s : ByteArray) (a : Nat) (most : Int) (sort : Nat) (ht : Tabs B w) (h : RdB w b s a most) (ha : a ≤ s.size) (hs : s.size ≤ 9223372036854775807) (hm0 : 0 ≤ most) (hm1 : most ≤ 9223372036854775807) (h5 : sort < 5) :
    Calls Tryd.prog 9 #[.pointer (some ⟨b, 0, none⟩), .int .i64 sort] w (TakeIs (takeOf sort s a most) b s most a w) := by
  have HT := Lib.hid ht
  have H := Lib.hid h
  clear ht h
  rcases (by omega : sort = 0 ∨ sort = 1 ∨ sort = 2 ∨ sort = 3 ∨ sort = 4) with rfl | rfl | rfl | rfl | rfl
  · go_enter Tryd.func9, Tryd.ntmps9
    go_wp2_with fail
    refine (Num_any w B b s a most HT.out H.out ha hs).mono ?_
    rintro e w1 ⟨hE, hm⟩
    have HE := Lib.hid hE
    clear hE
    rcases numOf_is (s := s) (a := a) (most := most) with ⟨k, h1, h2⟩ | ⟨n, a1, h1, h2⟩
    · rw [show numOf s a numsL = _ from h1] at hm
      obtain ⟨hR, f, rfl, hf, hb⟩ := hm
      have HR := Lib.hid hR
      have HB := Lib.hid hb
      have H2 := Lib.hid h2
      clear hR hb h1 h2
      go_wp2
      go_ret3
      rw [H2.out]
      exact ⟨HE.out, HR.out, f, rfl, hf, HB.out⟩
    · rw [show numOf s a numsL = _ from h1] at hm
      obtain ⟨rfl, hR⟩ := hm
      have HR := Lib.hid hR
      have H2 := Lib.hid h2
      clear hR h1 h2
      go_wp2
      go_ret3
      rw [H2.out]
      exact ⟨HE.out, rfl, HR.out⟩
  · go_enter Tryd.func9, Tryd.ntmps9
    go_wp2_with fail
    refine (Bin_any w B b s a most HT.out H.out ha hs hm0 hm1).mono ?_
    rintro e w1 ⟨hE, hm⟩
    have HE := Lib.hid hE
    clear hE
    rcases textOf_is (s := s) (a := a) (most := most) (sort := 1) (by decide) with ⟨k, h1, h2⟩ | ⟨n, t, a1, h1, h2, h3, h4⟩
    · rw [show textOf s a most binsL = _ from h1] at hm
      obtain ⟨hR, f, rfl, hf, hb⟩ := hm
      have HR := Lib.hid hR
      have HB := Lib.hid hb
      have H2 := Lib.hid h2
      clear hR hb h1 h2
      go_wp2
      go_ret3
      rw [H2.out]
      exact ⟨HE.out, HR.out, f, rfl, hf, HB.out⟩
    · rw [show textOf s a most binsL = _ from h1] at hm
      obtain ⟨rfl, hR⟩ := hm
      have HR := Lib.hid hR
      have H2 := Lib.hid h2
      clear hR h1 h2
      have i1 : IntKind.u64.wrap (t.size : Int) = n := by rw [h3]; exact IntWalk.u64_in _ (by omega)
      have H3 := Lib.hid h3
      clear h3
      go_wp2
      go_ret3
      rw [H2.out]
      exact ⟨HE.out, rfl, HR.out⟩
  · go_enter Tryd.func9, Tryd.ntmps9
    go_wp2_with fail
    refine (Str_any w B b s a most HT.out H.out ha hs hm0 hm1).mono ?_
    rintro e w1 ⟨hE, hm⟩
    have HE := Lib.hid hE
    clear hE
    rcases textOf_is (s := s) (a := a) (most := most) (sort := 2) (by decide) with ⟨k, h1, h2⟩ | ⟨n, t, a1, h1, h2, h3, h4⟩
    · rw [show textOf s a most strsL = _ from h1] at hm
      obtain ⟨hR, f, rfl, hf, hb⟩ := hm
      have HR := Lib.hid hR
      have HB := Lib.hid hb
      have H2 := Lib.hid h2
      clear hR hb h1 h2
      go_wp2
      go_ret3
      rw [H2.out]
      exact ⟨HE.out, HR.out, f, rfl, hf, HB.out⟩
    · rw [show textOf s a most strsL = _ from h1] at hm
      obtain ⟨rfl, hR⟩ := hm
      have HR := Lib.hid hR
      have H2 := Lib.hid h2
      clear hR h1 h2
      have i1 : IntKind.u64.wrap (t.size : Int) = n := by rw [h3]; exact IntWalk.u64_in _ (by omega)
      have H3 := Lib.hid h3
      clear h3
      go_wp2
      go_ret3
      rw [H2.out]
      exact ⟨HE.out, rfl, HR.out⟩
  · go_enter Tryd.func9, Tryd.ntmps9
    go_wp2_with fail
    refine (List_any w B b s a most HT.out H.out ha hs hm0 hm1).mono ?_
    rintro e w1 ⟨hE, hm⟩
    have HE := Lib.hid hE
    clear hE
    rcases countOf_is (s := s) (a := a) (most := most) (sort := 3) (by decide) with ⟨k, h1, h2⟩ | ⟨n, a1, h1, h2, h3⟩
    · rw [show countOf s a most listsL = _ from h1] at hm
      obtain ⟨hR, f, rfl, hf, hb⟩ := hm
      have HR := Lib.hid hR
      have HB := Lib.hid hb
      have H2 := Lib.hid h2
      clear hR hb h1 h2
      go_wp2
      go_ret3
      rw [H2.out]
      exact ⟨HE.out, HR.out, f, rfl, hf, HB.out⟩
    · rw [show countOf s a most listsL = _ from h1] at hm
      obtain ⟨rfl, hR⟩ := hm
      have HR := Lib.hid hR
      have H2 := Lib.hid h2
      clear hR h1 h2
      have i1 : IntKind.u64.wrap (n : Int) = n := IntWalk.u64_in _ (by omega)
      go_wp2
      go_ret3
      rw [H2.out]
      exact ⟨HE.out, rfl, HR.out⟩
  · go_enter Tryd.func9, Tryd.ntmps9
    go_wp2_with fail
    refine (Map_any w B b s a most HT.out H.out ha hs hm0 hm1).mono ?_
    rintro e w1 ⟨hE, hm⟩
    have HE := Lib.hid hE
    clear hE
    rcases countOf_is (s := s) (a := a) (most := most) (sort := 4) (by decide) with ⟨k, h1, h2⟩ | ⟨n, a1, h1, h2, h3⟩
    · rw [show countOf s a most pairsL = _ from h1] at hm
      obtain ⟨hR, f, rfl, hf, hb⟩ := hm
      have HR := Lib.hid hR
      have HB := Lib.hid hb
      have H2 := Lib.hid h2
      clear hR hb h1 h2
      go_wp2
      go_ret3
      rw [H2.out]
      exact ⟨HE.out, HR.out, f, rfl, hf, HB.out⟩
    · rw [show countOf s a most pairsL = _ from h1] at hm
      obtain ⟨rfl, hR⟩ := hm
      have HR := Lib.hid hR
      have H2 := Lib.hid h2
      clear hR h1 h2
      have i1 : IntKind.u64.wrap (n : Int) = n := IntWalk.u64_in _ (by omega)
      go_wp2
      go_ret3
      rw [H2.out]
      exact ⟨HE.out, rfl, HR.out⟩

theorem New_any (w : World) (s : ByteArray) (m : Int) : Calls Tryd.prog 7 #[.string s, .int .i64 m] w fun e w' => e = .returned (.pointer (some ⟨w.heap.size, 0, none⟩)) ∧ w' = w.alloc (.cells #[.string s, .int .i64 0, .int .i64 (max m 0)] 58) := by
  by_cases h : m < 0
  · rw [show max m 0 = 0 by omega]
    go_enter Tryd.func7, Tryd.ntmps7
    go_wp2
    go_ret
    exact ⟨rfl, rfl⟩
  · rw [show max m 0 = m by omega]
    go_enter Tryd.func7, Tryd.ntmps7
    go_wp2
    go_ret
    exact ⟨rfl, rfl⟩
theorem refNew_any (w : World) (s : ByteArray) (m : Int) : Calls Tryd.prog 8 #[.string s, .int .i64 m] w fun e w' => e = .returned (.pointer (some ⟨w.heap.size, 0, none⟩)) ∧ w' = w.alloc (.cells #[.string s, .int .i64 0, .int .i64 (max m 0)] 28) := by
  by_cases h : m < 0
  · rw [show max m 0 = 0 by omega]
    go_enter Tryd.func8, Tryd.ntmps8
    go_wp2
    go_ret
    exact ⟨rfl, rfl⟩
  · rw [show max m 0 = m by omega]
    go_enter Tryd.func8, Tryd.ntmps8
    go_wp2
    go_ret
    exact ⟨rfl, rfl⟩
end Go.Proofs.YtmcmapcijncblaaDoor
