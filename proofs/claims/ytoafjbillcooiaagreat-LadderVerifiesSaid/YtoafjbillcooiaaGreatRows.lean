/-
  No cell of these rows narrows 'for every input' (looked for: loops, veiled, ifaces, maps, wideKeys, modest, calm, conditions, laid).
  DERIVED. THE GIVEN ROWS OF THIS SEAT. 7 by the template 'for every input the law returns true; each argument reads behind the call as it read before'; 0 by the template 'total and deterministic' (their statements: YtoafjbillcooiaaGreatTotals.lean).
  GIVEN WITH THE SEED: the statements are not yours to turn. If you find one false, say at which input.
  Laid BY PROGRAM, IN A SANDBOX (cutbox-rows.mjs): the forced cells as the released guide's own fill.sh prints them over the translation 3963b5b140b3e1b6… (all of the seat's roots in one cut). By AI agents, Wed Nov 11 2026. No macro, syntax, notation, axiom, sorry.
-/
import Derived.Test.YtoafjbillcooiaaGreatChecked
import GoSem.Claim
import GoSem.ClaimJoined
import GoSem.ClaimMapViews
import Derived.JoinedTies
import Derived.KernelRfl
namespace Go.Proofs.YtoafjbillcooiaaGreat
/- THE CELL 'sum', in the pinned program and in every row, IS THE sha256 OF THE DUMP (.gsa) THAT YtoafjbillcooiaaGreatProg.lean LOADS. Nothing in Lean hashes anything: it is a label: what it is worth is what the hold of that sum in a sandbox is worth. -/
noncomputable def Tryz.pinned : Pinned := { name := "ytoafjbillcooiaagreat", sum := "3963b5b140b3e1b63af7aef71ef5b01c733b0444ebe9874a17adad6c5ca553b1", checked := Tryz.checked }
namespace Rows
def none {H : Type} : Left H := { results := [], args := [] }

/-- 'sextantlaw25.ExtractFinds': WHATEVER THE INPUT: true; the input reads as it did. -/
def extractFindsSpec : ChangeSpec := { name := "extractFinds", fn := fun _ => fun
  | [d1, d2, d3] => { results := [.lit (.bool true)], args := [d1, d2, d3] }
  | _ => none }
def extractFindsRow : OpenClaim := { program := "ytoafjbillcooiaagreat", sum := "3963b5b140b3e1b63af7aef71ef5b01c733b0444ebe9874a17adad6c5ca553b1", func := "sextant/sextantlaw25.ExtractFinds", spec := "extractFinds", inPlace := ["internal/abi.NoEscape", "maps.clone"], unfollowed := true, recurses := true, apart := false }
def ExtractFindsSaid : Prop := extractFindsRow.holds Tryz.pinned (OpenSpec.ofChange extractFindsSpec)

/-- ITS FALSE NEIGHBOUR: 'it returns false'. Refute it at one input. -/
def extractFindsWrong : ChangeSpec := { name := "extractFinds", fn := fun _ => fun
  | [d1, d2, d3] => { results := [.lit (.bool false)], args := [d1, d2, d3] }
  | _ => none }
def ExtractFindsWrongFalsely : Prop := extractFindsRow.holds Tryz.pinned (OpenSpec.ofChange extractFindsWrong)

/-- 'sextantlaw25.ExtractTells': WHATEVER THE INPUT: true; the input reads as it did. -/
def extractTellsSpec : ChangeSpec := { name := "extractTells", fn := fun _ => fun
  | [d1, d2, d3] => { results := [.lit (.bool true)], args := [d1, d2, d3] }
  | _ => none }
def extractTellsRow : OpenClaim := { program := "ytoafjbillcooiaagreat", sum := "3963b5b140b3e1b63af7aef71ef5b01c733b0444ebe9874a17adad6c5ca553b1", func := "sextant/sextantlaw25.ExtractTells", spec := "extractTells", inPlace := ["internal/abi.NoEscape", "maps.clone"], unfollowed := true, recurses := true, apart := false }
def ExtractTellsSaid : Prop := extractTellsRow.holds Tryz.pinned (OpenSpec.ofChange extractTellsSpec)

/-- ITS FALSE NEIGHBOUR: 'it returns false'. Refute it at one input. -/
def extractTellsWrong : ChangeSpec := { name := "extractTells", fn := fun _ => fun
  | [d1, d2, d3] => { results := [.lit (.bool false)], args := [d1, d2, d3] }
  | _ => none }
def ExtractTellsWrongFalsely : Prop := extractTellsRow.holds Tryz.pinned (OpenSpec.ofChange extractTellsWrong)

/-- 'sextantlaw14.LadderVerifies': WHATEVER THE INPUT: true; the input reads as it did. -/
def ladderVerifiesSpec : ChangeSpec := { name := "ladderVerifies", fn := fun _ => fun
  | [d1, d2, d3] => { results := [.lit (.bool true)], args := [d1, d2, d3] }
  | _ => none }
def ladderVerifiesRow : OpenClaim := { program := "ytoafjbillcooiaagreat", sum := "3963b5b140b3e1b63af7aef71ef5b01c733b0444ebe9874a17adad6c5ca553b1", func := "sextant/sextantlaw14.LadderVerifies", spec := "ladderVerifies", inPlace := ["internal/abi.NoEscape"], unfollowed := true, recurses := true, apart := false }
def LadderVerifiesSaid : Prop := ladderVerifiesRow.holds Tryz.pinned (OpenSpec.ofChange ladderVerifiesSpec)

/-- ITS FALSE NEIGHBOUR: 'it returns false'. Refute it at one input. -/
def ladderVerifiesWrong : ChangeSpec := { name := "ladderVerifies", fn := fun _ => fun
  | [d1, d2, d3] => { results := [.lit (.bool false)], args := [d1, d2, d3] }
  | _ => none }
def LadderVerifiesWrongFalsely : Prop := ladderVerifiesRow.holds Tryz.pinned (OpenSpec.ofChange ladderVerifiesWrong)

/-- 'sextantlaw14.LadderHolds': WHATEVER THE INPUT: true; the input reads as it did. -/
def ladderHoldsSpec : ChangeSpec := { name := "ladderHolds", fn := fun _ => fun
  | [d] => { results := [.lit (.bool true)], args := [d] }
  | _ => none }
def ladderHoldsRow : OpenClaim := { program := "ytoafjbillcooiaagreat", sum := "3963b5b140b3e1b63af7aef71ef5b01c733b0444ebe9874a17adad6c5ca553b1", func := "sextant/sextantlaw14.LadderHolds", spec := "ladderHolds", inPlace := ["internal/abi.NoEscape"], unfollowed := true, recurses := true, apart := false }
def LadderHoldsSaid : Prop := ladderHoldsRow.holds Tryz.pinned (OpenSpec.ofChange ladderHoldsSpec)

/-- ITS FALSE NEIGHBOUR: 'it returns false'. Refute it at one input. -/
def ladderHoldsWrong : ChangeSpec := { name := "ladderHolds", fn := fun _ => fun
  | [d] => { results := [.lit (.bool false)], args := [d] }
  | _ => none }
def LadderHoldsWrongFalsely : Prop := ladderHoldsRow.holds Tryz.pinned (OpenSpec.ofChange ladderHoldsWrong)

/-- 'sextantlaw14.LadderSigns': WHATEVER THE INPUT: true; the input reads as it did. -/
def ladderSignsSpec : ChangeSpec := { name := "ladderSigns", fn := fun _ => fun
  | [d] => { results := [.lit (.bool true)], args := [d] }
  | _ => none }
def ladderSignsRow : OpenClaim := { program := "ytoafjbillcooiaagreat", sum := "3963b5b140b3e1b63af7aef71ef5b01c733b0444ebe9874a17adad6c5ca553b1", func := "sextant/sextantlaw14.LadderSigns", spec := "ladderSigns", inPlace := ["internal/abi.NoEscape"], unfollowed := true, recurses := true, apart := false }
def LadderSignsSaid : Prop := ladderSignsRow.holds Tryz.pinned (OpenSpec.ofChange ladderSignsSpec)

/-- ITS FALSE NEIGHBOUR: 'it returns false'. Refute it at one input. -/
def ladderSignsWrong : ChangeSpec := { name := "ladderSigns", fn := fun _ => fun
  | [d] => { results := [.lit (.bool false)], args := [d] }
  | _ => none }
def LadderSignsWrongFalsely : Prop := ladderSignsRow.holds Tryz.pinned (OpenSpec.ofChange ladderSignsWrong)

/-- 'sextantlaw14.LadderKeys': WHATEVER THE INPUT: true; the input reads as it did. -/
def ladderKeysSpec : ChangeSpec := { name := "ladderKeys", fn := fun _ => fun
  | [d] => { results := [.lit (.bool true)], args := [d] }
  | _ => none }
def ladderKeysRow : OpenClaim := { program := "ytoafjbillcooiaagreat", sum := "3963b5b140b3e1b63af7aef71ef5b01c733b0444ebe9874a17adad6c5ca553b1", func := "sextant/sextantlaw14.LadderKeys", spec := "ladderKeys", inPlace := ["internal/abi.NoEscape"], unfollowed := true, recurses := true, apart := false }
def LadderKeysSaid : Prop := ladderKeysRow.holds Tryz.pinned (OpenSpec.ofChange ladderKeysSpec)

/-- ITS FALSE NEIGHBOUR: 'it returns false'. Refute it at one input. -/
def ladderKeysWrong : ChangeSpec := { name := "ladderKeys", fn := fun _ => fun
  | [d] => { results := [.lit (.bool false)], args := [d] }
  | _ => none }
def LadderKeysWrongFalsely : Prop := ladderKeysRow.holds Tryz.pinned (OpenSpec.ofChange ladderKeysWrong)

/-- 'sextantlaw14.LadderKnown': WHATEVER THE INPUT: true; the input reads as it did. -/
def ladderKnownSpec : ChangeSpec := { name := "ladderKnown", fn := fun _ => fun
  | [] => { results := [.lit (.bool true)], args := [] }
  | _ => none }
def ladderKnownRow : OpenClaim := { program := "ytoafjbillcooiaagreat", sum := "3963b5b140b3e1b63af7aef71ef5b01c733b0444ebe9874a17adad6c5ca553b1", func := "sextant/sextantlaw14.LadderKnown", spec := "ladderKnown", inPlace := ["internal/abi.NoEscape"], unfollowed := true, recurses := true, apart := false }
def LadderKnownSaid : Prop := ladderKnownRow.holds Tryz.pinned (OpenSpec.ofChange ladderKnownSpec)

/-- ITS FALSE NEIGHBOUR: 'it returns false'. Refute it at one input. -/
def ladderKnownWrong : ChangeSpec := { name := "ladderKnown", fn := fun _ => fun
  | [] => { results := [.lit (.bool false)], args := [] }
  | _ => none }
def LadderKnownWrongFalsely : Prop := ladderKnownRow.holds Tryz.pinned (OpenSpec.ofChange ladderKnownWrong)

/- THE SECOND FORM. 'bulk': how many values and letters a reading holds, each counted each time it is reached (what is shared counts as often as it is met; a slice's spare places count too). A statement '..UptoSaid' is the law's where the arguments, and the package variables that the reading takes, are together of bulk at most 1048576: NARROWER than '..Said'. Prove '..Said' where nothing that the law and all that it calls make is longer than what came in: it says more and counts as full. Else prove '..UptoSaid'. A law counts once. -/
mutual
def uptoBulk {H : Type} : DataW H → Nat
  | .lit (.string bytes) => bytes.length + 1
  | .lit _ => 1
  | .nil => 1
  | .ptr d => uptoBulk d + 1
  | .slice elems spare => uptoBulkAll elems + uptoBulkAll spare + 1
  | .agg parts => uptoBulkAll parts + 1
  | .iface _ d => uptoBulk d + 1
  | .map entries => uptoBulkEntries entries + 1
  | .held _ => 1
def uptoBulkAll {H : Type} : List (DataW H) → Nat
  | [] => 0
  | d :: r => uptoBulk d + uptoBulkAll r
def uptoBulkEntries {H : Type} : List (Lit × DataW H) → Nat
  | [] => 0
  | x :: r => uptoBulkEntry x + uptoBulkEntries r
def uptoBulkEntry {H : Type} : Lit × DataW H → Nat
  | (.string bytes, d) => bytes.length + uptoBulk d + 1
  | (_, d) => uptoBulk d + 1
 end
def uptoSmall : (H : Type) → List (DataW H) → Bool := fun _ ds => decide (uptoBulkAll ds ≤ 1048576)
def OpenSpec.upto (s : _root_.Go.ChangeSpec) : _root_.Go.OpenSpec := { _root_.Go.OpenSpec.ofChange s with cond := some uptoSmall }

/-- 'sextantlaw25.ExtractFinds', WHERE WHAT IT READS IS OF BULK AT MOST 1048576: true; the input reads as it did. -/
def extractFindsUptoRow : OpenClaim := { program := "ytoafjbillcooiaagreat", sum := "3963b5b140b3e1b63af7aef71ef5b01c733b0444ebe9874a17adad6c5ca553b1", func := "sextant/sextantlaw25.ExtractFinds", spec := "extractFinds", inPlace := ["internal/abi.NoEscape", "maps.clone"], unfollowed := true, recurses := true, apart := false, narrowed := true }
def ExtractFindsUptoSaid : Prop := extractFindsUptoRow.holds Tryz.pinned (OpenSpec.upto extractFindsSpec)

/-- 'sextantlaw25.ExtractTells', WHERE WHAT IT READS IS OF BULK AT MOST 1048576: true; the input reads as it did. -/
def extractTellsUptoRow : OpenClaim := { program := "ytoafjbillcooiaagreat", sum := "3963b5b140b3e1b63af7aef71ef5b01c733b0444ebe9874a17adad6c5ca553b1", func := "sextant/sextantlaw25.ExtractTells", spec := "extractTells", inPlace := ["internal/abi.NoEscape", "maps.clone"], unfollowed := true, recurses := true, apart := false, narrowed := true }
def ExtractTellsUptoSaid : Prop := extractTellsUptoRow.holds Tryz.pinned (OpenSpec.upto extractTellsSpec)

/-- 'sextantlaw14.LadderVerifies', WHERE WHAT IT READS IS OF BULK AT MOST 1048576: true; the input reads as it did. -/
def ladderVerifiesUptoRow : OpenClaim := { program := "ytoafjbillcooiaagreat", sum := "3963b5b140b3e1b63af7aef71ef5b01c733b0444ebe9874a17adad6c5ca553b1", func := "sextant/sextantlaw14.LadderVerifies", spec := "ladderVerifies", inPlace := ["internal/abi.NoEscape"], unfollowed := true, recurses := true, apart := false, narrowed := true }
def LadderVerifiesUptoSaid : Prop := ladderVerifiesUptoRow.holds Tryz.pinned (OpenSpec.upto ladderVerifiesSpec)

/-- 'sextantlaw14.LadderHolds', WHERE WHAT IT READS IS OF BULK AT MOST 1048576: true; the input reads as it did. -/
def ladderHoldsUptoRow : OpenClaim := { program := "ytoafjbillcooiaagreat", sum := "3963b5b140b3e1b63af7aef71ef5b01c733b0444ebe9874a17adad6c5ca553b1", func := "sextant/sextantlaw14.LadderHolds", spec := "ladderHolds", inPlace := ["internal/abi.NoEscape"], unfollowed := true, recurses := true, apart := false, narrowed := true }
def LadderHoldsUptoSaid : Prop := ladderHoldsUptoRow.holds Tryz.pinned (OpenSpec.upto ladderHoldsSpec)

/-- 'sextantlaw14.LadderSigns', WHERE WHAT IT READS IS OF BULK AT MOST 1048576: true; the input reads as it did. -/
def ladderSignsUptoRow : OpenClaim := { program := "ytoafjbillcooiaagreat", sum := "3963b5b140b3e1b63af7aef71ef5b01c733b0444ebe9874a17adad6c5ca553b1", func := "sextant/sextantlaw14.LadderSigns", spec := "ladderSigns", inPlace := ["internal/abi.NoEscape"], unfollowed := true, recurses := true, apart := false, narrowed := true }
def LadderSignsUptoSaid : Prop := ladderSignsUptoRow.holds Tryz.pinned (OpenSpec.upto ladderSignsSpec)

/-- 'sextantlaw14.LadderKeys', WHERE WHAT IT READS IS OF BULK AT MOST 1048576: true; the input reads as it did. -/
def ladderKeysUptoRow : OpenClaim := { program := "ytoafjbillcooiaagreat", sum := "3963b5b140b3e1b63af7aef71ef5b01c733b0444ebe9874a17adad6c5ca553b1", func := "sextant/sextantlaw14.LadderKeys", spec := "ladderKeys", inPlace := ["internal/abi.NoEscape"], unfollowed := true, recurses := true, apart := false, narrowed := true }
def LadderKeysUptoSaid : Prop := ladderKeysUptoRow.holds Tryz.pinned (OpenSpec.upto ladderKeysSpec)

/-- 'sextantlaw14.LadderKnown', WHERE WHAT IT READS IS OF BULK AT MOST 1048576: true; the input reads as it did. -/
def ladderKnownUptoRow : OpenClaim := { program := "ytoafjbillcooiaagreat", sum := "3963b5b140b3e1b63af7aef71ef5b01c733b0444ebe9874a17adad6c5ca553b1", func := "sextant/sextantlaw14.LadderKnown", spec := "ladderKnown", inPlace := ["internal/abi.NoEscape"], unfollowed := true, recurses := true, apart := false, narrowed := true }
def LadderKnownUptoSaid : Prop := ladderKnownUptoRow.holds Tryz.pinned (OpenSpec.upto ladderKnownSpec)

end Rows
end Go.Proofs.YtoafjbillcooiaaGreat
