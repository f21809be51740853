/- The statement CertKnown: the law. -/
import Derived.Test.YtihiaopilnjonaaGreatDoorShowC
namespace Go.Proofs.YtihiaopilnjonaaGreatDoor
open Go.RowKit
set_option linter.unusedSimpArgs false
set_option linter.unusedVariables false

theorem i0_of {α : Type} {x : α} {i : Nat} (h : i < len [x]) : i = 0 := by simp [len] at h; omega
def lA21 : List Int := [4, 1, 2, 9, 3, 4]
def lP21 : List Int := [4, 0, 18446744073709551615]
def lQ21 : List Int := [4, 1, 18446744073709551615]
def lR21 : List Int := [4, 18446744073709551615, 18446744073709551615]
def lS21 : List Int := [4, 18446744073709551615, 0]
def lU21 : List Int := [4, 0, 1]
def lV21 : List Int := [4, 0, 1, 4, 1, 1]
def lW21 : List Int := [4, 0, 2, 5, 1, 1]
/-- A reveal that may not be shown; and with a list that may not be. -/
def badO : One := ⟨1, 0, 1, 31⟩
theorem badO_ok : ∀ i, (onth [badO] i).Ok := fun i => by
  match i with
  | 0 => exact ⟨by decide, by decide, by decide, by decide, by decide, by decide, by decide, by decide⟩
  | _ + 1 => exact One.zero_ok
def badR (nb : Nat) : Rev := { revOf badO with wa := some ⟨nb, 0, none⟩, wn := 1, wc := 1 }
theorem slots2 : (eachO (slotOuts ((ofL lA21 2).take 30 |>.map revOf) (fun _ => []) (fun _ => []))).2 = 0 := by kernel_rfl
theorem slots2n : len (eachO (slotOuts ((ofL lA21 2).take 30 |>.map revOf) (fun _ => []) (fun _ => []))).1 = 2 := by kernel_rfl
theorem slots21 : sth (eachO (slotOuts ((ofL lA21 2).take 30 |>.map revOf) (fun _ => []) (fun _ => []))).1 1 = (oth (slotOuts ((ofL lA21 2).take 30 |>.map revOf) (fun _ => []) (fun _ => [])) 1).1 := by kernel_rfl
theorem parts2 : (eachO (partOuts ((ofL lA21 2).take 30 |>.map revOf))).2 = 0 := by kernel_rfl
theorem parts2n : len (eachO (partOuts ((ofL lA21 2).take 30 |>.map revOf))).1 = 2 := by kernel_rfl
theorem parts21 : sth (eachO (partOuts ((ofL lA21 2).take 30 |>.map revOf))).1 1 = (oth (partOuts ((ofL lA21 2).take 30 |>.map revOf)) 1).1 := by kernel_rfl
theorem badparts : eachO (partOuts ([badO].take 30 |>.map revOf)) = ([], 2) := by kernel_rfl
theorem badslots (nb : Nat) : eachO (slotOuts [badR nb] (fun _ => [⟨#[120]⟩]) (fun _ => [])) = ([], 2) := by kernel_rfl
theorem pos2 : posOf ((ofL lA21 2).take 30 |>.map revOf) = [4, 9] := by kernel_rfl
theorem sh0 : shapeOf (madeC (ofL lP21 1) [4] 18446744073709551615) 1 = 0 := by decide +kernel
theorem sh1 : shapeOf (madeC (ofL lQ21 1) [4] 18446744073709551615) 1 = 5 := by decide +kernel
theorem sh2 : shapeOf (madeC (ofL lR21 1) [4] 18446744073709551615) 1 = 5 := by decide +kernel
theorem sh3 : shapeOf (madeC (ofL lS21 1) [4] 18446744073709551615) 1 = 5 := by decide +kernel
theorem sh4 : shapeOf (madeC (ofL lU21 1) [4] 0) 1 = 5 := by decide +kernel
theorem sh5 : shapeOf (madeC (ofL lU21 1) [4] 1) 0 = 7 := by decide +kernel
theorem sh6 : shapeOf (madeC (ofL lU21 1) [4] 1) (-1) = 7 := by decide +kernel
theorem sh7 : shapeOf (madeC [] [4] 1) 1 = 8 := by decide +kernel
theorem sh8 : shapeOf (madeC (ofL lU21 1) [] 1) 1 = 8 := by decide +kernel
theorem sh9 : shapeOf (madeC (ofL lV21 2) [4] 9) 9 = 5 := by decide +kernel
theorem sh10 : shapeOf (madeC (ofL lW21 2) [5, 4] 9) 9 = 5 := by decide +kernel
theorem sh11 : shapeOf (madeC [] [] 0) (-1) = 0 := by decide +kernel


end Go.Proofs.YtihiaopilnjonaaGreatDoor
