/-
  No cell of these rows narrows 'for every input' (looked for: loops, veiled, ifaces, maps, wideKeys, modest, calm, conditions, laid).
  DERIVED. THE GIVEN ROWS OF THIS SEAT. 5 by the template 'for every input the law returns true; each argument reads behind the call as it read before'; 0 by the template 'total and deterministic' (their statements: YtmcmapcijncblaaTotals.lean).
  GIVEN WITH THE SEED: the statements are not yours to turn. If you find one false, say at which input.
  Laid BY PROGRAM, IN A SANDBOX (cutbox-rows.mjs): the forced cells as the released guide's own fill.sh prints them over the translation 2ef48c5e8abf11f6… (all of the seat's roots in one cut). By AI agents, Wed Nov 11 2026. No macro, syntax, notation, axiom, sorry.
-/
import Derived.Test.YtmcmapcijncblaaChecked
import GoSem.Claim
import GoSem.ClaimJoined
import GoSem.ClaimMapViews
import Derived.JoinedTies
import Derived.KernelRfl
namespace Go.Proofs.Ytmcmapcijncblaa
/- THE CELL 'sum', in the pinned program and in every row, IS THE sha256 OF THE DUMP (.gsa) THAT YtmcmapcijncblaaProg.lean LOADS. Nothing in Lean hashes anything: it is a label: what it is worth is what the hold of that sum in a sandbox is worth. -/
noncomputable def Try.pinned : Pinned := { name := "ytmcmapcijncblaa", sum := "2ef48c5e8abf11f6fe5405f6cf2c7fde9f9b8c26fff1379a6e55e6a1413665e9", checked := Try.checked }
namespace Rows
def none {H : Type} : Left H := { results := [], args := [] }

/-- 'sextantlaw21.CertShapes': WHATEVER THE INPUT: true; the input reads as it did. -/
def certShapesSpec : ChangeSpec := { name := "certShapes", fn := fun _ => fun
  | [d1, d2, d3] => { results := [.lit (.bool true)], args := [d1, d2, d3] }
  | _ => none }
def certShapesRow : OpenClaim := { program := "ytmcmapcijncblaa", sum := "2ef48c5e8abf11f6fe5405f6cf2c7fde9f9b8c26fff1379a6e55e6a1413665e9", func := "sextant/sextantlaw21.CertShapes", spec := "certShapes", inPlace := ["math/bits.Add64"], unfollowed := true, recurses := true, apart := false }
def CertShapesSaid : Prop := certShapesRow.holds Try.pinned (OpenSpec.ofChange certShapesSpec)

/-- ITS FALSE NEIGHBOUR: 'it returns false'. Refute it at one input. -/
def certShapesWrong : ChangeSpec := { name := "certShapes", fn := fun _ => fun
  | [d1, d2, d3] => { results := [.lit (.bool false)], args := [d1, d2, d3] }
  | _ => none }
def CertShapesWrongFalsely : Prop := certShapesRow.holds Try.pinned (OpenSpec.ofChange certShapesWrong)

/-- 'sextantlaw21.CertApart': WHATEVER THE INPUT: true; the input reads as it did. -/
def certApartSpec : ChangeSpec := { name := "certApart", fn := fun _ => fun
  | [d1, d2, d3] => { results := [.lit (.bool true)], args := [d1, d2, d3] }
  | _ => none }
def certApartRow : OpenClaim := { program := "ytmcmapcijncblaa", sum := "2ef48c5e8abf11f6fe5405f6cf2c7fde9f9b8c26fff1379a6e55e6a1413665e9", func := "sextant/sextantlaw21.CertApart", spec := "certApart", inPlace := ["math/bits.Add64"], unfollowed := true, recurses := true, apart := false }
def CertApartSaid : Prop := certApartRow.holds Try.pinned (OpenSpec.ofChange certApartSpec)

/-- ITS FALSE NEIGHBOUR: 'it returns false'. Refute it at one input. -/
def certApartWrong : ChangeSpec := { name := "certApart", fn := fun _ => fun
  | [d1, d2, d3] => { results := [.lit (.bool false)], args := [d1, d2, d3] }
  | _ => none }
def CertApartWrongFalsely : Prop := certApartRow.holds Try.pinned (OpenSpec.ofChange certApartWrong)

/-- 'sextantlaw21.CertLaid': WHATEVER THE INPUT: true; the input reads as it did. -/
def certLaidSpec : ChangeSpec := { name := "certLaid", fn := fun _ => fun
  | [d1, d2] => { results := [.lit (.bool true)], args := [d1, d2] }
  | _ => none }
def certLaidRow : OpenClaim := { program := "ytmcmapcijncblaa", sum := "2ef48c5e8abf11f6fe5405f6cf2c7fde9f9b8c26fff1379a6e55e6a1413665e9", func := "sextant/sextantlaw21.CertLaid", spec := "certLaid", inPlace := ["math/bits.Add64"], unfollowed := true, recurses := true, apart := false }
def CertLaidSaid : Prop := certLaidRow.holds Try.pinned (OpenSpec.ofChange certLaidSpec)

/-- ITS FALSE NEIGHBOUR: 'it returns false'. Refute it at one input. -/
def certLaidWrong : ChangeSpec := { name := "certLaid", fn := fun _ => fun
  | [d1, d2] => { results := [.lit (.bool false)], args := [d1, d2] }
  | _ => none }
def CertLaidWrongFalsely : Prop := certLaidRow.holds Try.pinned (OpenSpec.ofChange certLaidWrong)

/-- 'sextantlaw15.PartWeights': WHATEVER THE INPUT: true; the input reads as it did. -/
def partWeightsSpec : ChangeSpec := { name := "partWeights", fn := fun _ => fun
  | [d] => { results := [.lit (.bool true)], args := [d] }
  | _ => none }
def partWeightsRow : OpenClaim := { program := "ytmcmapcijncblaa", sum := "2ef48c5e8abf11f6fe5405f6cf2c7fde9f9b8c26fff1379a6e55e6a1413665e9", func := "sextant/sextantlaw15.PartWeights", spec := "partWeights", inPlace := ["internal/abi.NoEscape", "internal/bytealg.MakeNoZero", "math/bits.Add64"], unfollowed := true, recurses := true, apart := false }
def PartWeightsSaid : Prop := partWeightsRow.holds Try.pinned (OpenSpec.ofChange partWeightsSpec)

/-- ITS FALSE NEIGHBOUR: 'it returns false'. Refute it at one input. -/
def partWeightsWrong : ChangeSpec := { name := "partWeights", fn := fun _ => fun
  | [d] => { results := [.lit (.bool false)], args := [d] }
  | _ => none }
def PartWeightsWrongFalsely : Prop := partWeightsRow.holds Try.pinned (OpenSpec.ofChange partWeightsWrong)

/-- 'sextantlaw15.PartParts': WHATEVER THE INPUT: true; the input reads as it did. -/
def partPartsSpec : ChangeSpec := { name := "partParts", fn := fun _ => fun
  | [d1, d2] => { results := [.lit (.bool true)], args := [d1, d2] }
  | _ => none }
def partPartsRow : OpenClaim := { program := "ytmcmapcijncblaa", sum := "2ef48c5e8abf11f6fe5405f6cf2c7fde9f9b8c26fff1379a6e55e6a1413665e9", func := "sextant/sextantlaw15.PartParts", spec := "partParts", inPlace := ["internal/abi.NoEscape", "internal/bytealg.MakeNoZero", "math/bits.Add64"], unfollowed := true, recurses := true, apart := false }
def PartPartsSaid : Prop := partPartsRow.holds Try.pinned (OpenSpec.ofChange partPartsSpec)

/-- ITS FALSE NEIGHBOUR: 'it returns false'. Refute it at one input. -/
def partPartsWrong : ChangeSpec := { name := "partParts", fn := fun _ => fun
  | [d1, d2] => { results := [.lit (.bool false)], args := [d1, d2] }
  | _ => none }
def PartPartsWrongFalsely : Prop := partPartsRow.holds Try.pinned (OpenSpec.ofChange partPartsWrong)

/- THE SECOND FORM. 'bulk': how many values and letters a reading holds, each counted each time it is reached (what is shared counts as often as it is met; a slice's spare places count too). A statement '..UptoSaid' is the law's where the arguments, and the package variables that the reading takes, are together of bulk at most 1048576: NARROWER than '..Said'. Prove '..Said' where nothing that the law and all that it calls make is longer than what came in: it says more and counts as full. Else prove '..UptoSaid'. A law counts once. -/
mutual
def uptoBulk {H : Type} : DataW H → Nat
  | .lit (.string bytes) => bytes.length + 1
  | .lit _ => 1
  | .nil => 1
  | .ptr d => uptoBulk d + 1
  | .slice elems spare => uptoBulkAll elems + uptoBulkAll spare + 1
  | .agg parts => uptoBulkAll parts + 1
  | .iface _ d => uptoBulk d + 1
  | .map entries => uptoBulkEntries entries + 1
  | .held _ => 1
def uptoBulkAll {H : Type} : List (DataW H) → Nat
  | [] => 0
  | d :: r => uptoBulk d + uptoBulkAll r
def uptoBulkEntries {H : Type} : List (Lit × DataW H) → Nat
  | [] => 0
  | x :: r => uptoBulkEntry x + uptoBulkEntries r
def uptoBulkEntry {H : Type} : Lit × DataW H → Nat
  | (.string bytes, d) => bytes.length + uptoBulk d + 1
  | (_, d) => uptoBulk d + 1
 end
def uptoSmall : (H : Type) → List (DataW H) → Bool := fun _ ds => decide (uptoBulkAll ds ≤ 1048576)
def OpenSpec.upto (s : _root_.Go.ChangeSpec) : _root_.Go.OpenSpec := { _root_.Go.OpenSpec.ofChange s with cond := some uptoSmall }

/-- 'sextantlaw21.CertShapes', WHERE WHAT IT READS IS OF BULK AT MOST 1048576: true; the input reads as it did. -/
def certShapesUptoRow : OpenClaim := { program := "ytmcmapcijncblaa", sum := "2ef48c5e8abf11f6fe5405f6cf2c7fde9f9b8c26fff1379a6e55e6a1413665e9", func := "sextant/sextantlaw21.CertShapes", spec := "certShapes", inPlace := ["math/bits.Add64"], unfollowed := true, recurses := true, apart := false, narrowed := true }
def CertShapesUptoSaid : Prop := certShapesUptoRow.holds Try.pinned (OpenSpec.upto certShapesSpec)

/-- 'sextantlaw21.CertApart', WHERE WHAT IT READS IS OF BULK AT MOST 1048576: true; the input reads as it did. -/
def certApartUptoRow : OpenClaim := { program := "ytmcmapcijncblaa", sum := "2ef48c5e8abf11f6fe5405f6cf2c7fde9f9b8c26fff1379a6e55e6a1413665e9", func := "sextant/sextantlaw21.CertApart", spec := "certApart", inPlace := ["math/bits.Add64"], unfollowed := true, recurses := true, apart := false, narrowed := true }
def CertApartUptoSaid : Prop := certApartUptoRow.holds Try.pinned (OpenSpec.upto certApartSpec)

/-- 'sextantlaw21.CertLaid', WHERE WHAT IT READS IS OF BULK AT MOST 1048576: true; the input reads as it did. -/
def certLaidUptoRow : OpenClaim := { program := "ytmcmapcijncblaa", sum := "2ef48c5e8abf11f6fe5405f6cf2c7fde9f9b8c26fff1379a6e55e6a1413665e9", func := "sextant/sextantlaw21.CertLaid", spec := "certLaid", inPlace := ["math/bits.Add64"], unfollowed := true, recurses := true, apart := false, narrowed := true }
def CertLaidUptoSaid : Prop := certLaidUptoRow.holds Try.pinned (OpenSpec.upto certLaidSpec)

/-- 'sextantlaw15.PartWeights', WHERE WHAT IT READS IS OF BULK AT MOST 1048576: true; the input reads as it did. -/
def partWeightsUptoRow : OpenClaim := { program := "ytmcmapcijncblaa", sum := "2ef48c5e8abf11f6fe5405f6cf2c7fde9f9b8c26fff1379a6e55e6a1413665e9", func := "sextant/sextantlaw15.PartWeights", spec := "partWeights", inPlace := ["internal/abi.NoEscape", "internal/bytealg.MakeNoZero", "math/bits.Add64"], unfollowed := true, recurses := true, apart := false, narrowed := true }
def PartWeightsUptoSaid : Prop := partWeightsUptoRow.holds Try.pinned (OpenSpec.upto partWeightsSpec)

/-- 'sextantlaw15.PartParts', WHERE WHAT IT READS IS OF BULK AT MOST 1048576: true; the input reads as it did. -/
def partPartsUptoRow : OpenClaim := { program := "ytmcmapcijncblaa", sum := "2ef48c5e8abf11f6fe5405f6cf2c7fde9f9b8c26fff1379a6e55e6a1413665e9", func := "sextant/sextantlaw15.PartParts", spec := "partParts", inPlace := ["internal/abi.NoEscape", "internal/bytealg.MakeNoZero", "math/bits.Add64"], unfollowed := true, recurses := true, apart := false, narrowed := true }
def PartPartsUptoSaid : Prop := partPartsUptoRow.holds Try.pinned (OpenSpec.upto partPartsSpec)

end Rows
end Go.Proofs.Ytmcmapcijncblaa
