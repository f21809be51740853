/-
  No cell of these rows narrows 'for every input' (looked for: loops, veiled, ifaces, maps, wideKeys, modest, calm, conditions, laid).
  DERIVED. THE GIVEN ROWS OF THIS SEAT. 6 by the template 'for every input the law returns true; each argument reads behind the call as it read before'; 0 by the template 'total and deterministic' (their statements: YtloccahcnikbfaaTotals.lean).
  GIVEN WITH THE SEED: the statements are not yours to turn. If you find one false, say at which input.
  Laid BY PROGRAM, IN A SANDBOX (cutbox-rows.mjs): the forced cells as the released guide's own fill.sh prints them over the translation 3633e9b974c3570e… (all of the seat's roots in one cut). By AI agents, Wed Nov 11 2026. No macro, syntax, notation, axiom, sorry.
-/
import Derived.Test.YtloccahcnikbfaaChecked
import GoSem.Claim
import GoSem.ClaimJoined
import GoSem.ClaimMapViews
import Derived.JoinedTies
import Derived.KernelRfl
namespace Go.Proofs.Ytloccahcnikbfaa
/- THE CELL 'sum', in the pinned program and in every row, IS THE sha256 OF THE DUMP (.gsa) THAT YtloccahcnikbfaaProg.lean LOADS. Nothing in Lean hashes anything: it is a label: what it is worth is what the hold of that sum in a sandbox is worth. -/
noncomputable def Try.pinned : Pinned := { name := "ytloccahcnikbfaa", sum := "3633e9b974c3570ec6258ff0081a5241b4266850d6e41f029d6fec3a8ddb1305", checked := Try.checked }
namespace Rows
def none {H : Type} : Left H := { results := [], args := [] }

/-- 'sextantlaw11.ProofRoots': WHATEVER THE INPUT: true; the input reads as it did. -/
def proofRootsSpec : ChangeSpec := { name := "proofRoots", fn := fun _ => fun
  | [d] => { results := [.lit (.bool true)], args := [d] }
  | _ => none }
def proofRootsRow : OpenClaim := { program := "ytloccahcnikbfaa", sum := "3633e9b974c3570ec6258ff0081a5241b4266850d6e41f029d6fec3a8ddb1305", func := "sextant/sextantlaw11.ProofRoots", spec := "proofRoots", inPlace := ["internal/abi.NoEscape"], unfollowed := true, recurses := true, apart := false }
def ProofRootsSaid : Prop := proofRootsRow.holds Try.pinned (OpenSpec.ofChange proofRootsSpec)

/-- ITS FALSE NEIGHBOUR: 'it returns false'. Refute it at one input. -/
def proofRootsWrong : ChangeSpec := { name := "proofRoots", fn := fun _ => fun
  | [d] => { results := [.lit (.bool false)], args := [d] }
  | _ => none }
def ProofRootsWrongFalsely : Prop := proofRootsRow.holds Try.pinned (OpenSpec.ofChange proofRootsWrong)

/-- 'sextantlaw11.ProofChecks': WHATEVER THE INPUT: true; the input reads as it did. -/
def proofChecksSpec : ChangeSpec := { name := "proofChecks", fn := fun _ => fun
  | [d1, d2] => { results := [.lit (.bool true)], args := [d1, d2] }
  | _ => none }
def proofChecksRow : OpenClaim := { program := "ytloccahcnikbfaa", sum := "3633e9b974c3570ec6258ff0081a5241b4266850d6e41f029d6fec3a8ddb1305", func := "sextant/sextantlaw11.ProofChecks", spec := "proofChecks", inPlace := ["internal/abi.NoEscape"], unfollowed := true, recurses := true, apart := false }
def ProofChecksSaid : Prop := proofChecksRow.holds Try.pinned (OpenSpec.ofChange proofChecksSpec)

/-- ITS FALSE NEIGHBOUR: 'it returns false'. Refute it at one input. -/
def proofChecksWrong : ChangeSpec := { name := "proofChecks", fn := fun _ => fun
  | [d1, d2] => { results := [.lit (.bool false)], args := [d1, d2] }
  | _ => none }
def ProofChecksWrongFalsely : Prop := proofChecksRow.holds Try.pinned (OpenSpec.ofChange proofChecksWrong)

/-- 'sextantlaw11.ProofKnown': WHATEVER THE INPUT: true; the input reads as it did. -/
def proofKnownSpec : ChangeSpec := { name := "proofKnown", fn := fun _ => fun
  | [] => { results := [.lit (.bool true)], args := [] }
  | _ => none }
def proofKnownRow : OpenClaim := { program := "ytloccahcnikbfaa", sum := "3633e9b974c3570ec6258ff0081a5241b4266850d6e41f029d6fec3a8ddb1305", func := "sextant/sextantlaw11.ProofKnown", spec := "proofKnown", inPlace := ["internal/abi.NoEscape"], unfollowed := true, recurses := true, apart := false }
def ProofKnownSaid : Prop := proofKnownRow.holds Try.pinned (OpenSpec.ofChange proofKnownSpec)

/-- ITS FALSE NEIGHBOUR: 'it returns false'. Refute it at one input. -/
def proofKnownWrong : ChangeSpec := { name := "proofKnown", fn := fun _ => fun
  | [] => { results := [.lit (.bool false)], args := [] }
  | _ => none }
def ProofKnownWrongFalsely : Prop := proofKnownRow.holds Try.pinned (OpenSpec.ofChange proofKnownWrong)

/-- 'sextantlaw10.MultiTogether': WHATEVER THE INPUT: true; the input reads as it did. -/
def multiTogetherSpec : ChangeSpec := { name := "multiTogether", fn := fun _ => fun
  | [d1, d2, d3] => { results := [.lit (.bool true)], args := [d1, d2, d3] }
  | _ => none }
def multiTogetherRow : OpenClaim := { program := "ytloccahcnikbfaa", sum := "3633e9b974c3570ec6258ff0081a5241b4266850d6e41f029d6fec3a8ddb1305", func := "sextant/sextantlaw10.MultiTogether", spec := "multiTogether", inPlace := ["internal/abi.NoEscape"], unfollowed := true, recurses := true, apart := false }
def MultiTogetherSaid : Prop := multiTogetherRow.holds Try.pinned (OpenSpec.ofChange multiTogetherSpec)

/-- ITS FALSE NEIGHBOUR: 'it returns false'. Refute it at one input. -/
def multiTogetherWrong : ChangeSpec := { name := "multiTogether", fn := fun _ => fun
  | [d1, d2, d3] => { results := [.lit (.bool false)], args := [d1, d2, d3] }
  | _ => none }
def MultiTogetherWrongFalsely : Prop := multiTogetherRow.holds Try.pinned (OpenSpec.ofChange multiTogetherWrong)

/-- 'sextantlaw10.MultiSizes': WHATEVER THE INPUT: true; the input reads as it did. -/
def multiSizesSpec : ChangeSpec := { name := "multiSizes", fn := fun _ => fun
  | [d1, d2] => { results := [.lit (.bool true)], args := [d1, d2] }
  | _ => none }
def multiSizesRow : OpenClaim := { program := "ytloccahcnikbfaa", sum := "3633e9b974c3570ec6258ff0081a5241b4266850d6e41f029d6fec3a8ddb1305", func := "sextant/sextantlaw10.MultiSizes", spec := "multiSizes", inPlace := ["internal/abi.NoEscape"], unfollowed := true, recurses := true, apart := false }
def MultiSizesSaid : Prop := multiSizesRow.holds Try.pinned (OpenSpec.ofChange multiSizesSpec)

/-- ITS FALSE NEIGHBOUR: 'it returns false'. Refute it at one input. -/
def multiSizesWrong : ChangeSpec := { name := "multiSizes", fn := fun _ => fun
  | [d1, d2] => { results := [.lit (.bool false)], args := [d1, d2] }
  | _ => none }
def MultiSizesWrongFalsely : Prop := multiSizesRow.holds Try.pinned (OpenSpec.ofChange multiSizesWrong)

/-- 'sextantlaw10.MultiRoots': WHATEVER THE INPUT: true; the input reads as it did. -/
def multiRootsSpec : ChangeSpec := { name := "multiRoots", fn := fun _ => fun
  | [d1, d2] => { results := [.lit (.bool true)], args := [d1, d2] }
  | _ => none }
def multiRootsRow : OpenClaim := { program := "ytloccahcnikbfaa", sum := "3633e9b974c3570ec6258ff0081a5241b4266850d6e41f029d6fec3a8ddb1305", func := "sextant/sextantlaw10.MultiRoots", spec := "multiRoots", inPlace := ["internal/abi.NoEscape"], unfollowed := true, recurses := true, apart := false }
def MultiRootsSaid : Prop := multiRootsRow.holds Try.pinned (OpenSpec.ofChange multiRootsSpec)

/-- ITS FALSE NEIGHBOUR: 'it returns false'. Refute it at one input. -/
def multiRootsWrong : ChangeSpec := { name := "multiRoots", fn := fun _ => fun
  | [d1, d2] => { results := [.lit (.bool false)], args := [d1, d2] }
  | _ => none }
def MultiRootsWrongFalsely : Prop := multiRootsRow.holds Try.pinned (OpenSpec.ofChange multiRootsWrong)

/- THE SECOND FORM. 'bulk': how many values and letters a reading holds, each counted each time it is reached (what is shared counts as often as it is met; a slice's spare places count too). A statement '..UptoSaid' is the law's where the arguments, and the package variables that the reading takes, are together of bulk at most 1048576: NARROWER than '..Said'. Prove '..Said' where nothing that the law and all that it calls make is longer than what came in: it says more and counts as full. Else prove '..UptoSaid'. A law counts once. -/
mutual
def uptoBulk {H : Type} : DataW H → Nat
  | .lit (.string bytes) => bytes.length + 1
  | .lit _ => 1
  | .nil => 1
  | .ptr d => uptoBulk d + 1
  | .slice elems spare => uptoBulkAll elems + uptoBulkAll spare + 1
  | .agg parts => uptoBulkAll parts + 1
  | .iface _ d => uptoBulk d + 1
  | .map entries => uptoBulkEntries entries + 1
  | .held _ => 1
def uptoBulkAll {H : Type} : List (DataW H) → Nat
  | [] => 0
  | d :: r => uptoBulk d + uptoBulkAll r
def uptoBulkEntries {H : Type} : List (Lit × DataW H) → Nat
  | [] => 0
  | x :: r => uptoBulkEntry x + uptoBulkEntries r
def uptoBulkEntry {H : Type} : Lit × DataW H → Nat
  | (.string bytes, d) => bytes.length + uptoBulk d + 1
  | (_, d) => uptoBulk d + 1
 end
def uptoSmall : (H : Type) → List (DataW H) → Bool := fun _ ds => decide (uptoBulkAll ds ≤ 1048576)
def OpenSpec.upto (s : _root_.Go.ChangeSpec) : _root_.Go.OpenSpec := { _root_.Go.OpenSpec.ofChange s with cond := some uptoSmall }

/-- 'sextantlaw11.ProofRoots', WHERE WHAT IT READS IS OF BULK AT MOST 1048576: true; the input reads as it did. -/
def proofRootsUptoRow : OpenClaim := { program := "ytloccahcnikbfaa", sum := "3633e9b974c3570ec6258ff0081a5241b4266850d6e41f029d6fec3a8ddb1305", func := "sextant/sextantlaw11.ProofRoots", spec := "proofRoots", inPlace := ["internal/abi.NoEscape"], unfollowed := true, recurses := true, apart := false, narrowed := true }
def ProofRootsUptoSaid : Prop := proofRootsUptoRow.holds Try.pinned (OpenSpec.upto proofRootsSpec)

/-- 'sextantlaw11.ProofChecks', WHERE WHAT IT READS IS OF BULK AT MOST 1048576: true; the input reads as it did. -/
def proofChecksUptoRow : OpenClaim := { program := "ytloccahcnikbfaa", sum := "3633e9b974c3570ec6258ff0081a5241b4266850d6e41f029d6fec3a8ddb1305", func := "sextant/sextantlaw11.ProofChecks", spec := "proofChecks", inPlace := ["internal/abi.NoEscape"], unfollowed := true, recurses := true, apart := false, narrowed := true }
def ProofChecksUptoSaid : Prop := proofChecksUptoRow.holds Try.pinned (OpenSpec.upto proofChecksSpec)

/-- 'sextantlaw11.ProofKnown', WHERE WHAT IT READS IS OF BULK AT MOST 1048576: true; the input reads as it did. -/
def proofKnownUptoRow : OpenClaim := { program := "ytloccahcnikbfaa", sum := "3633e9b974c3570ec6258ff0081a5241b4266850d6e41f029d6fec3a8ddb1305", func := "sextant/sextantlaw11.ProofKnown", spec := "proofKnown", inPlace := ["internal/abi.NoEscape"], unfollowed := true, recurses := true, apart := false, narrowed := true }
def ProofKnownUptoSaid : Prop := proofKnownUptoRow.holds Try.pinned (OpenSpec.upto proofKnownSpec)

/-- 'sextantlaw10.MultiTogether', WHERE WHAT IT READS IS OF BULK AT MOST 1048576: true; the input reads as it did. -/
def multiTogetherUptoRow : OpenClaim := { program := "ytloccahcnikbfaa", sum := "3633e9b974c3570ec6258ff0081a5241b4266850d6e41f029d6fec3a8ddb1305", func := "sextant/sextantlaw10.MultiTogether", spec := "multiTogether", inPlace := ["internal/abi.NoEscape"], unfollowed := true, recurses := true, apart := false, narrowed := true }
def MultiTogetherUptoSaid : Prop := multiTogetherUptoRow.holds Try.pinned (OpenSpec.upto multiTogetherSpec)

/-- 'sextantlaw10.MultiSizes', WHERE WHAT IT READS IS OF BULK AT MOST 1048576: true; the input reads as it did. -/
def multiSizesUptoRow : OpenClaim := { program := "ytloccahcnikbfaa", sum := "3633e9b974c3570ec6258ff0081a5241b4266850d6e41f029d6fec3a8ddb1305", func := "sextant/sextantlaw10.MultiSizes", spec := "multiSizes", inPlace := ["internal/abi.NoEscape"], unfollowed := true, recurses := true, apart := false, narrowed := true }
def MultiSizesUptoSaid : Prop := multiSizesUptoRow.holds Try.pinned (OpenSpec.upto multiSizesSpec)

/-- 'sextantlaw10.MultiRoots', WHERE WHAT IT READS IS OF BULK AT MOST 1048576: true; the input reads as it did. -/
def multiRootsUptoRow : OpenClaim := { program := "ytloccahcnikbfaa", sum := "3633e9b974c3570ec6258ff0081a5241b4266850d6e41f029d6fec3a8ddb1305", func := "sextant/sextantlaw10.MultiRoots", spec := "multiRoots", inPlace := ["internal/abi.NoEscape"], unfollowed := true, recurses := true, apart := false, narrowed := true }
def MultiRootsUptoSaid : Prop := multiRootsUptoRow.holds Try.pinned (OpenSpec.upto multiRootsSpec)

end Rows
end Go.Proofs.Ytloccahcnikbfaa
