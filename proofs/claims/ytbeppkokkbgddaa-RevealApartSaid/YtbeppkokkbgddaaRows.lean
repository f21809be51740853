/-
  No cell of these rows narrows 'for every input' (looked for: loops, veiled, ifaces, maps, wideKeys, modest, calm, conditions, laid).
  DERIVED. THE GIVEN ROWS OF THIS SEAT. 9 by the template 'for every input the law returns true; each argument reads behind the call as it read before'; 0 by the template 'total and deterministic' (their statements: YtbeppkokkbgddaaTotals.lean).
  GIVEN WITH THE SEED: the statements are not yours to turn. If you find one false, say at which input.
  Laid BY PROGRAM, IN A SANDBOX (cutbox-rows.mjs): the forced cells as the released guide's own fill.sh prints them over the translation 81412c6c00d7a390… (all of the seat's roots in one cut). By AI agents, Wed Nov 11 2026. No macro, syntax, notation, axiom, sorry.
-/
import Derived.Test.YtbeppkokkbgddaaChecked
import GoSem.Claim
import GoSem.ClaimJoined
import GoSem.ClaimMapViews
import Derived.JoinedTies
import Derived.KernelRfl
namespace Go.Proofs.Ytbeppkokkbgddaa
/- THE CELL 'sum', in the pinned program and in every row, IS THE sha256 OF THE DUMP (.gsa) THAT YtbeppkokkbgddaaProg.lean LOADS. Nothing in Lean hashes anything: it is a label: what it is worth is what the hold of that sum in a sandbox is worth. -/
noncomputable def Try.pinned : Pinned := { name := "ytbeppkokkbgddaa", sum := "81412c6c00d7a390e853bf82c066fbf885c39c38aa6788eb012d1a92ac167f1b", checked := Try.checked }
namespace Rows
def none {H : Type} : Left H := { results := [], args := [] }

/-- 'sextantlaw08.LayoutPlaces': WHATEVER THE INPUT: true; the input reads as it did. -/
def layoutPlacesSpec : ChangeSpec := { name := "layoutPlaces", fn := fun _ => fun
  | [d1, d2, d3] => { results := [.lit (.bool true)], args := [d1, d2, d3] }
  | _ => none }
def layoutPlacesRow : OpenClaim := { program := "ytbeppkokkbgddaa", sum := "81412c6c00d7a390e853bf82c066fbf885c39c38aa6788eb012d1a92ac167f1b", func := "sextant/sextantlaw08.LayoutPlaces", spec := "layoutPlaces", unfollowed := true, recurses := true, apart := false }
def LayoutPlacesSaid : Prop := layoutPlacesRow.holds Try.pinned (OpenSpec.ofChange layoutPlacesSpec)

/-- ITS FALSE NEIGHBOUR: 'it returns false'. Refute it at one input. -/
def layoutPlacesWrong : ChangeSpec := { name := "layoutPlaces", fn := fun _ => fun
  | [d1, d2, d3] => { results := [.lit (.bool false)], args := [d1, d2, d3] }
  | _ => none }
def LayoutPlacesWrongFalsely : Prop := layoutPlacesRow.holds Try.pinned (OpenSpec.ofChange layoutPlacesWrong)

/-- 'sextantlaw08.LayoutNeeds': WHATEVER THE INPUT: true; the input reads as it did. -/
def layoutNeedsSpec : ChangeSpec := { name := "layoutNeeds", fn := fun _ => fun
  | [d1, d2] => { results := [.lit (.bool true)], args := [d1, d2] }
  | _ => none }
def layoutNeedsRow : OpenClaim := { program := "ytbeppkokkbgddaa", sum := "81412c6c00d7a390e853bf82c066fbf885c39c38aa6788eb012d1a92ac167f1b", func := "sextant/sextantlaw08.LayoutNeeds", spec := "layoutNeeds", unfollowed := true, recurses := true, apart := false }
def LayoutNeedsSaid : Prop := layoutNeedsRow.holds Try.pinned (OpenSpec.ofChange layoutNeedsSpec)

/-- ITS FALSE NEIGHBOUR: 'it returns false'. Refute it at one input. -/
def layoutNeedsWrong : ChangeSpec := { name := "layoutNeeds", fn := fun _ => fun
  | [d1, d2] => { results := [.lit (.bool false)], args := [d1, d2] }
  | _ => none }
def LayoutNeedsWrongFalsely : Prop := layoutNeedsRow.holds Try.pinned (OpenSpec.ofChange layoutNeedsWrong)

/-- 'sextantlaw08.LayoutTurns': WHATEVER THE INPUT: true; the input reads as it did. -/
def layoutTurnsSpec : ChangeSpec := { name := "layoutTurns", fn := fun _ => fun
  | [d1, d2] => { results := [.lit (.bool true)], args := [d1, d2] }
  | _ => none }
def layoutTurnsRow : OpenClaim := { program := "ytbeppkokkbgddaa", sum := "81412c6c00d7a390e853bf82c066fbf885c39c38aa6788eb012d1a92ac167f1b", func := "sextant/sextantlaw08.LayoutTurns", spec := "layoutTurns", unfollowed := true, recurses := true, apart := false }
def LayoutTurnsSaid : Prop := layoutTurnsRow.holds Try.pinned (OpenSpec.ofChange layoutTurnsSpec)

/-- ITS FALSE NEIGHBOUR: 'it returns false'. Refute it at one input. -/
def layoutTurnsWrong : ChangeSpec := { name := "layoutTurns", fn := fun _ => fun
  | [d1, d2] => { results := [.lit (.bool false)], args := [d1, d2] }
  | _ => none }
def LayoutTurnsWrongFalsely : Prop := layoutTurnsRow.holds Try.pinned (OpenSpec.ofChange layoutTurnsWrong)

/-- 'sextantlaw08.LayoutSuffices': WHATEVER THE INPUT: true; the input reads as it did. -/
def layoutSufficesSpec : ChangeSpec := { name := "layoutSuffices", fn := fun _ => fun
  | [d1, d2, d3] => { results := [.lit (.bool true)], args := [d1, d2, d3] }
  | _ => none }
def layoutSufficesRow : OpenClaim := { program := "ytbeppkokkbgddaa", sum := "81412c6c00d7a390e853bf82c066fbf885c39c38aa6788eb012d1a92ac167f1b", func := "sextant/sextantlaw08.LayoutSuffices", spec := "layoutSuffices", unfollowed := true, recurses := true, apart := false }
def LayoutSufficesSaid : Prop := layoutSufficesRow.holds Try.pinned (OpenSpec.ofChange layoutSufficesSpec)

/-- ITS FALSE NEIGHBOUR: 'it returns false'. Refute it at one input. -/
def layoutSufficesWrong : ChangeSpec := { name := "layoutSuffices", fn := fun _ => fun
  | [d1, d2, d3] => { results := [.lit (.bool false)], args := [d1, d2, d3] }
  | _ => none }
def LayoutSufficesWrongFalsely : Prop := layoutSufficesRow.holds Try.pinned (OpenSpec.ofChange layoutSufficesWrong)

/-- 'sextantlaw08.LayoutKnown': WHATEVER THE INPUT: true; the input reads as it did. -/
def layoutKnownSpec : ChangeSpec := { name := "layoutKnown", fn := fun _ => fun
  | [] => { results := [.lit (.bool true)], args := [] }
  | _ => none }
def layoutKnownRow : OpenClaim := { program := "ytbeppkokkbgddaa", sum := "81412c6c00d7a390e853bf82c066fbf885c39c38aa6788eb012d1a92ac167f1b", func := "sextant/sextantlaw08.LayoutKnown", spec := "layoutKnown", unfollowed := true, recurses := true, apart := false }
def LayoutKnownSaid : Prop := layoutKnownRow.holds Try.pinned (OpenSpec.ofChange layoutKnownSpec)

/-- ITS FALSE NEIGHBOUR: 'it returns false'. Refute it at one input. -/
def layoutKnownWrong : ChangeSpec := { name := "layoutKnown", fn := fun _ => fun
  | [] => { results := [.lit (.bool false)], args := [] }
  | _ => none }
def LayoutKnownWrongFalsely : Prop := layoutKnownRow.holds Try.pinned (OpenSpec.ofChange layoutKnownWrong)

/-- 'sextantlaw20.RevealChooses': WHATEVER THE INPUT: true; the input reads as it did. -/
def revealChoosesSpec : ChangeSpec := { name := "revealChooses", fn := fun _ => fun
  | [d1, d2, d3] => { results := [.lit (.bool true)], args := [d1, d2, d3] }
  | _ => none }
def revealChoosesRow : OpenClaim := { program := "ytbeppkokkbgddaa", sum := "81412c6c00d7a390e853bf82c066fbf885c39c38aa6788eb012d1a92ac167f1b", func := "sextant/sextantlaw20.RevealChooses", spec := "revealChooses", inPlace := ["math/bits.Add64"], unfollowed := true, recurses := true, apart := false }
def RevealChoosesSaid : Prop := revealChoosesRow.holds Try.pinned (OpenSpec.ofChange revealChoosesSpec)

/-- ITS FALSE NEIGHBOUR: 'it returns false'. Refute it at one input. -/
def revealChoosesWrong : ChangeSpec := { name := "revealChooses", fn := fun _ => fun
  | [d1, d2, d3] => { results := [.lit (.bool false)], args := [d1, d2, d3] }
  | _ => none }
def RevealChoosesWrongFalsely : Prop := revealChoosesRow.holds Try.pinned (OpenSpec.ofChange revealChoosesWrong)

/-- 'sextantlaw20.RevealKnown': WHATEVER THE INPUT: true; the input reads as it did. -/
def revealKnownSpec : ChangeSpec := { name := "revealKnown", fn := fun _ => fun
  | [] => { results := [.lit (.bool true)], args := [] }
  | _ => none }
def revealKnownRow : OpenClaim := { program := "ytbeppkokkbgddaa", sum := "81412c6c00d7a390e853bf82c066fbf885c39c38aa6788eb012d1a92ac167f1b", func := "sextant/sextantlaw20.RevealKnown", spec := "revealKnown", inPlace := ["math/bits.Add64"], unfollowed := true, recurses := true, apart := false }
def RevealKnownSaid : Prop := revealKnownRow.holds Try.pinned (OpenSpec.ofChange revealKnownSpec)

/-- ITS FALSE NEIGHBOUR: 'it returns false'. Refute it at one input. -/
def revealKnownWrong : ChangeSpec := { name := "revealKnown", fn := fun _ => fun
  | [] => { results := [.lit (.bool false)], args := [] }
  | _ => none }
def RevealKnownWrongFalsely : Prop := revealKnownRow.holds Try.pinned (OpenSpec.ofChange revealKnownWrong)

/-- 'sextantlaw20.RevealApart': WHATEVER THE INPUT: true; the input reads as it did. -/
def revealApartSpec : ChangeSpec := { name := "revealApart", fn := fun _ => fun
  | [d1, d2, d3] => { results := [.lit (.bool true)], args := [d1, d2, d3] }
  | _ => none }
def revealApartRow : OpenClaim := { program := "ytbeppkokkbgddaa", sum := "81412c6c00d7a390e853bf82c066fbf885c39c38aa6788eb012d1a92ac167f1b", func := "sextant/sextantlaw20.RevealApart", spec := "revealApart", inPlace := ["math/bits.Add64"], unfollowed := true, recurses := true, apart := false }
def RevealApartSaid : Prop := revealApartRow.holds Try.pinned (OpenSpec.ofChange revealApartSpec)

/-- ITS FALSE NEIGHBOUR: 'it returns false'. Refute it at one input. -/
def revealApartWrong : ChangeSpec := { name := "revealApart", fn := fun _ => fun
  | [d1, d2, d3] => { results := [.lit (.bool false)], args := [d1, d2, d3] }
  | _ => none }
def RevealApartWrongFalsely : Prop := revealApartRow.holds Try.pinned (OpenSpec.ofChange revealApartWrong)

/-- 'sextantlaw20.RevealRight': WHATEVER THE INPUT: true; the input reads as it did. -/
def revealRightSpec : ChangeSpec := { name := "revealRight", fn := fun _ => fun
  | [d1, d2] => { results := [.lit (.bool true)], args := [d1, d2] }
  | _ => none }
def revealRightRow : OpenClaim := { program := "ytbeppkokkbgddaa", sum := "81412c6c00d7a390e853bf82c066fbf885c39c38aa6788eb012d1a92ac167f1b", func := "sextant/sextantlaw20.RevealRight", spec := "revealRight", inPlace := ["math/bits.Add64"], unfollowed := true, recurses := true, apart := false }
def RevealRightSaid : Prop := revealRightRow.holds Try.pinned (OpenSpec.ofChange revealRightSpec)

/-- ITS FALSE NEIGHBOUR: 'it returns false'. Refute it at one input. -/
def revealRightWrong : ChangeSpec := { name := "revealRight", fn := fun _ => fun
  | [d1, d2] => { results := [.lit (.bool false)], args := [d1, d2] }
  | _ => none }
def RevealRightWrongFalsely : Prop := revealRightRow.holds Try.pinned (OpenSpec.ofChange revealRightWrong)

/- THE SECOND FORM. 'bulk': how many values and letters a reading holds, each counted each time it is reached (what is shared counts as often as it is met; a slice's spare places count too). A statement '..UptoSaid' is the law's where the arguments, and the package variables that the reading takes, are together of bulk at most 1048576: NARROWER than '..Said'. Prove '..Said' where nothing that the law and all that it calls make is longer than what came in: it says more and counts as full. Else prove '..UptoSaid'. A law counts once. -/
mutual
def uptoBulk {H : Type} : DataW H → Nat
  | .lit (.string bytes) => bytes.length + 1
  | .lit _ => 1
  | .nil => 1
  | .ptr d => uptoBulk d + 1
  | .slice elems spare => uptoBulkAll elems + uptoBulkAll spare + 1
  | .agg parts => uptoBulkAll parts + 1
  | .iface _ d => uptoBulk d + 1
  | .map entries => uptoBulkEntries entries + 1
  | .held _ => 1
def uptoBulkAll {H : Type} : List (DataW H) → Nat
  | [] => 0
  | d :: r => uptoBulk d + uptoBulkAll r
def uptoBulkEntries {H : Type} : List (Lit × DataW H) → Nat
  | [] => 0
  | x :: r => uptoBulkEntry x + uptoBulkEntries r
def uptoBulkEntry {H : Type} : Lit × DataW H → Nat
  | (.string bytes, d) => bytes.length + uptoBulk d + 1
  | (_, d) => uptoBulk d + 1
 end
def uptoSmall : (H : Type) → List (DataW H) → Bool := fun _ ds => decide (uptoBulkAll ds ≤ 1048576)
def OpenSpec.upto (s : _root_.Go.ChangeSpec) : _root_.Go.OpenSpec := { _root_.Go.OpenSpec.ofChange s with cond := some uptoSmall }

/-- 'sextantlaw08.LayoutPlaces', WHERE WHAT IT READS IS OF BULK AT MOST 1048576: true; the input reads as it did. -/
def layoutPlacesUptoRow : OpenClaim := { program := "ytbeppkokkbgddaa", sum := "81412c6c00d7a390e853bf82c066fbf885c39c38aa6788eb012d1a92ac167f1b", func := "sextant/sextantlaw08.LayoutPlaces", spec := "layoutPlaces", unfollowed := true, recurses := true, apart := false, narrowed := true }
def LayoutPlacesUptoSaid : Prop := layoutPlacesUptoRow.holds Try.pinned (OpenSpec.upto layoutPlacesSpec)

/-- 'sextantlaw08.LayoutNeeds', WHERE WHAT IT READS IS OF BULK AT MOST 1048576: true; the input reads as it did. -/
def layoutNeedsUptoRow : OpenClaim := { program := "ytbeppkokkbgddaa", sum := "81412c6c00d7a390e853bf82c066fbf885c39c38aa6788eb012d1a92ac167f1b", func := "sextant/sextantlaw08.LayoutNeeds", spec := "layoutNeeds", unfollowed := true, recurses := true, apart := false, narrowed := true }
def LayoutNeedsUptoSaid : Prop := layoutNeedsUptoRow.holds Try.pinned (OpenSpec.upto layoutNeedsSpec)

/-- 'sextantlaw08.LayoutTurns', WHERE WHAT IT READS IS OF BULK AT MOST 1048576: true; the input reads as it did. -/
def layoutTurnsUptoRow : OpenClaim := { program := "ytbeppkokkbgddaa", sum := "81412c6c00d7a390e853bf82c066fbf885c39c38aa6788eb012d1a92ac167f1b", func := "sextant/sextantlaw08.LayoutTurns", spec := "layoutTurns", unfollowed := true, recurses := true, apart := false, narrowed := true }
def LayoutTurnsUptoSaid : Prop := layoutTurnsUptoRow.holds Try.pinned (OpenSpec.upto layoutTurnsSpec)

/-- 'sextantlaw08.LayoutSuffices', WHERE WHAT IT READS IS OF BULK AT MOST 1048576: true; the input reads as it did. -/
def layoutSufficesUptoRow : OpenClaim := { program := "ytbeppkokkbgddaa", sum := "81412c6c00d7a390e853bf82c066fbf885c39c38aa6788eb012d1a92ac167f1b", func := "sextant/sextantlaw08.LayoutSuffices", spec := "layoutSuffices", unfollowed := true, recurses := true, apart := false, narrowed := true }
def LayoutSufficesUptoSaid : Prop := layoutSufficesUptoRow.holds Try.pinned (OpenSpec.upto layoutSufficesSpec)

/-- 'sextantlaw08.LayoutKnown', WHERE WHAT IT READS IS OF BULK AT MOST 1048576: true; the input reads as it did. -/
def layoutKnownUptoRow : OpenClaim := { program := "ytbeppkokkbgddaa", sum := "81412c6c00d7a390e853bf82c066fbf885c39c38aa6788eb012d1a92ac167f1b", func := "sextant/sextantlaw08.LayoutKnown", spec := "layoutKnown", unfollowed := true, recurses := true, apart := false, narrowed := true }
def LayoutKnownUptoSaid : Prop := layoutKnownUptoRow.holds Try.pinned (OpenSpec.upto layoutKnownSpec)

/-- 'sextantlaw20.RevealChooses', WHERE WHAT IT READS IS OF BULK AT MOST 1048576: true; the input reads as it did. -/
def revealChoosesUptoRow : OpenClaim := { program := "ytbeppkokkbgddaa", sum := "81412c6c00d7a390e853bf82c066fbf885c39c38aa6788eb012d1a92ac167f1b", func := "sextant/sextantlaw20.RevealChooses", spec := "revealChooses", inPlace := ["math/bits.Add64"], unfollowed := true, recurses := true, apart := false, narrowed := true }
def RevealChoosesUptoSaid : Prop := revealChoosesUptoRow.holds Try.pinned (OpenSpec.upto revealChoosesSpec)

/-- 'sextantlaw20.RevealKnown', WHERE WHAT IT READS IS OF BULK AT MOST 1048576: true; the input reads as it did. -/
def revealKnownUptoRow : OpenClaim := { program := "ytbeppkokkbgddaa", sum := "81412c6c00d7a390e853bf82c066fbf885c39c38aa6788eb012d1a92ac167f1b", func := "sextant/sextantlaw20.RevealKnown", spec := "revealKnown", inPlace := ["math/bits.Add64"], unfollowed := true, recurses := true, apart := false, narrowed := true }
def RevealKnownUptoSaid : Prop := revealKnownUptoRow.holds Try.pinned (OpenSpec.upto revealKnownSpec)

/-- 'sextantlaw20.RevealApart', WHERE WHAT IT READS IS OF BULK AT MOST 1048576: true; the input reads as it did. -/
def revealApartUptoRow : OpenClaim := { program := "ytbeppkokkbgddaa", sum := "81412c6c00d7a390e853bf82c066fbf885c39c38aa6788eb012d1a92ac167f1b", func := "sextant/sextantlaw20.RevealApart", spec := "revealApart", inPlace := ["math/bits.Add64"], unfollowed := true, recurses := true, apart := false, narrowed := true }
def RevealApartUptoSaid : Prop := revealApartUptoRow.holds Try.pinned (OpenSpec.upto revealApartSpec)

/-- 'sextantlaw20.RevealRight', WHERE WHAT IT READS IS OF BULK AT MOST 1048576: true; the input reads as it did. -/
def revealRightUptoRow : OpenClaim := { program := "ytbeppkokkbgddaa", sum := "81412c6c00d7a390e853bf82c066fbf885c39c38aa6788eb012d1a92ac167f1b", func := "sextant/sextantlaw20.RevealRight", spec := "revealRight", inPlace := ["math/bits.Add64"], unfollowed := true, recurses := true, apart := false, narrowed := true }
def RevealRightUptoSaid : Prop := revealRightUptoRow.holds Try.pinned (OpenSpec.upto revealRightSpec)

end Rows
end Go.Proofs.Ytbeppkokkbgddaa
