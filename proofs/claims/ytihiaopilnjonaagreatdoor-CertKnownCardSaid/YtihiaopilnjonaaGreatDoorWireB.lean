/- Package wire: what the inner functions say of fields; all. -/
import Derived.Test.YtihiaopilnjonaaGreatDoorWireA
namespace Go.Proofs.YtihiaopilnjonaaGreatDoor
open Go.RowKit
set_option linter.unusedSimpArgs false
set_option linter.unusedVariables false

set_option maxRecDepth 100000 in
theorem says_all {B : Nat} {W0 w : World} {l : List FVal} {fs : List FSpec} (h : FSems B W0 l fs) (hk : Keep8 B W0 w) : SaysF w l 171 #[] (fun i => !(spth fs i).may) := by
  refine ⟨enters_of Tryz.func171 (by kernel_rfl) rfl, fun i hi w' hb => ?_⟩
  show Calls Tryz.prog 171 (#[(fth l i).val] ++ #[]) w' (fun e w'' => e = .returned (.bool (!(spth fs i).may)) ∧ Below w'.heap.size w' w'')
  have hs := h.2 i hi
  generalize fth l i = v at hs
  generalize spth fs i = f at hs
  have em := hs.em
  have HM : Hid (∀ x, Below w'.heap.size w' x → Calls Tryz.prog v.mf v.mc x fun e w' => e = .returned (.bool f.may) ∧ Below x.heap.size x w') := Lib.hid (fun x hx => hs.may x ((hk.next hb).next hx))
  clear hs
  show Calls Tryz.prog 171 #[v.val] w' _
  unfold FVal.val
  go_enter Tryz.func171, Tryz.ntmps171
  go_wp2_with fail
  refine (HM.out _ (balloc (Below.refl _ _) _)).mono ?_
  rintro e w1 ⟨rfl, hb1⟩
  have HB1 : Hid (Below w'.heap.size w' w1) := Lib.hid (bnext (balloc (Below.refl _ _) _) hb1)
  clear hb1
  go_wp2
  go_ret
  exact ⟨rfl, HB1.out⟩
set_option maxRecDepth 100000 in
theorem says_lay {B : Nat} {W0 w : World} {l : List FVal} {fs : List FSpec} (h : FSems B W0 l fs) (hk : Keep8 B W0 w) : SaysF w l 174 #[] (fun i => (spth fs i).empty) := by
  refine ⟨enters_of Tryz.func174 (by kernel_rfl) rfl, fun i hi w' hb => ?_⟩
  show Calls Tryz.prog 174 (#[(fth l i).val] ++ #[]) w' (fun e w'' => e = .returned (.bool ((spth fs i).empty)) ∧ Below w'.heap.size w' w'')
  have hs := h.2 i hi
  generalize fth l i = v at hs
  generalize spth fs i = f at hs
  have ee := hs.ee
  have HM : Hid (∀ x, Below w'.heap.size w' x → Calls Tryz.prog v.ef v.ec x fun e w' => e = .returned (.bool f.empty) ∧ Below x.heap.size x w') := Lib.hid (fun x hx => hs.empty x ((hk.next hb).next hx))
  clear hs
  show Calls Tryz.prog 174 #[v.val] w' _
  unfold FVal.val
  go_enter Tryz.func174, Tryz.ntmps174
  go_wp2_with fail
  refine (HM.out _ (balloc (Below.refl _ _) _)).mono ?_
  rintro e w1 ⟨rfl, hb1⟩
  have HB1 : Hid (Below w'.heap.size w' w1) := Lib.hid (bnext (balloc (Below.refl _ _) _) hb1)
  clear hb1
  go_wp2
  go_ret
  exact ⟨rfl, HB1.out⟩
set_option maxRecDepth 100000 in
theorem says_full {B : Nat} {W0 w : World} {l : List FVal} {fs : List FSpec} (h : FSems B W0 l fs) (hk : Keep8 B W0 w) : SaysF w l 179 #[] (fun i => !(spth fs i).empty) := by
  refine ⟨enters_of Tryz.func179 (by kernel_rfl) rfl, fun i hi w' hb => ?_⟩
  show Calls Tryz.prog 179 (#[(fth l i).val] ++ #[]) w' (fun e w'' => e = .returned (.bool (!(spth fs i).empty)) ∧ Below w'.heap.size w' w'')
  have hs := h.2 i hi
  generalize fth l i = v at hs
  generalize spth fs i = f at hs
  have ee := hs.ee
  have HM : Hid (∀ x, Below w'.heap.size w' x → Calls Tryz.prog v.ef v.ec x fun e w' => e = .returned (.bool f.empty) ∧ Below x.heap.size x w') := Lib.hid (fun x hx => hs.empty x ((hk.next hb).next hx))
  clear hs
  show Calls Tryz.prog 179 #[v.val] w' _
  unfold FVal.val
  go_enter Tryz.func179, Tryz.ntmps179
  go_wp2_with fail
  refine (HM.out _ (balloc (Below.refl _ _) _)).mono ?_
  rintro e w1 ⟨rfl, hb1⟩
  have HB1 : Hid (Below w'.heap.size w' w1) := Lib.hid (bnext (balloc (Below.refl _ _) _) hb1)
  clear hb1
  go_wp2
  go_ret
  exact ⟨rfl, HB1.out⟩
set_option maxRecDepth 100000 in
theorem says_must {B : Nat} {W0 w : World} {l : List FVal} {fs : List FSpec} (h : FSems B W0 l fs) : SaysF w l 177 #[] (fun i => (spth fs i).must) := by
  refine ⟨enters_of Tryz.func177 (by kernel_rfl) rfl, fun i hi w' hb => ?_⟩
  show Calls Tryz.prog 177 (#[(fth l i).val] ++ #[]) w' (fun e w'' => e = .returned (.bool ((spth fs i).must)) ∧ Below w'.heap.size w' w'')
  have hs := (h.2 i hi).must
  generalize fth l i = v at hs
  generalize spth fs i = f at hs
  show Calls Tryz.prog 177 #[v.val] w' _
  have HS := Lib.hid hs
  clear hs
  unfold FVal.val
  go_enter Tryz.func177, Tryz.ntmps177
  go_wp2
  go_ret
  exact ⟨ret_bool HS.out, by (repeat (first | exact Below.refl _ _ | assumption | (refine bdrew ?_) | (refine bdrewN ?_ _) | (refine balloc ?_ _) | (refine bset ?_ (by first | omega | (simp; done) | (simp; omega)) _) | (refine bnext ?_ (by assumption))))⟩

theorem allMay_iff (fs : List FSpec) (n : Nat) (h : len fs = n) : (allMay fs = false ↔ ∃ i, i < n ∧ (!(spth fs i).may) = true) := by
  unfold allMay
  subst h
  rw [List.all_eq_false]
  constructor
  · rintro ⟨x, hx, hm⟩
    obtain ⟨i, hi, rfl⟩ := List.getElem_of_mem hx
    exact ⟨i, hi, by rw [spth_eq fs i hi]; simpa using hm⟩
  · rintro ⟨i, hi, hm⟩
    have hi' : i < fs.length := hi
    exact ⟨fs[i], List.getElem_mem _, by rw [spth_eq fs i hi'] at hm; simpa using hm⟩
theorem all_any (B : Nat) (W0 : World) (a : Option Addr) (c : Nat) (l : List FVal) (fs : List FSpec) (w : World) (hl : Flds w a l) (hn : len l ≤ 1000) (hS : FSems B W0 l fs) (hk : Keep8 B W0 w) :
    Calls Tryz.prog 103 #[.slice a (len l) c] w fun e w' => e = .returned (.bool (allMay fs)) ∧ Below w.heap.size w w' := by
  have H := Lib.hid (containsf_any a c l 171 #[] _ w hl hn (says_all hS hk))
  have HI := Lib.hid (allMay_iff fs (len l) hS.1)
  clear hl hS hk
  go_enter Tryz.func103, Tryz.ntmps103
  go_wp2_with fail
  refine H.out.mono ?_
  rintro e w1 ⟨b, rfl, hb1, hb⟩
  have HB := Lib.hid hb
  have HE : Hid ((!b) = allMay fs) := Lib.hid (by
    have h := HI.out
    cases b with
    | true => rw [h.2 (hb1.1 rfl)]; rfl
    | false =>
      cases hm : allMay fs with
      | true => rfl
      | false => exact absurd (hb1.2 (h.1 hm)) (by decide))
  clear hb hb1
  go_wp2
  go_ret
  exact ⟨ret_bool HE.out, HB.out⟩
end Go.Proofs.YtihiaopilnjonaaGreatDoor
