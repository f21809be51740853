/-
  No cell of these rows narrows 'for every input' (looked for: loops, veiled, ifaces, maps, wideKeys, modest, calm, conditions, laid).
  DERIVED. THE GIVEN ROWS OF THIS SEAT. 3 by the template 'for every input the law returns true; each argument reads behind the call as it read before'; 0 by the template 'total and deterministic' (their statements: YtmikkhfklmmkaaaTotals.lean).
  GIVEN WITH THE SEED: the statements are not yours to turn. If you find one false, say at which input.
  Laid BY PROGRAM, IN A SANDBOX (cutbox-rows.mjs): the forced cells as the released guide's own fill.sh prints them over the translation a062b37a2127dce1… (all of the seat's roots in one cut). By AI agents, Wed Nov 11 2026. No macro, syntax, notation, axiom, sorry.
-/
import Derived.Test.YtmikkhfklmmkaaaChecked
import GoSem.Claim
import GoSem.ClaimJoined
import GoSem.ClaimMapViews
import Derived.JoinedTies
import Derived.KernelRfl
namespace Go.Proofs.Ytmikkhfklmmkaaa
/- THE CELL 'sum', in the pinned program and in every row, IS THE sha256 OF THE DUMP (.gsa) THAT YtmikkhfklmmkaaaProg.lean LOADS. Nothing in Lean hashes anything: it is a label: what it is worth is what the hold of that sum in a sandbox is worth. -/
noncomputable def Try.pinned : Pinned := { name := "ytmikkhfklmmkaaa", sum := "a062b37a2127dce1508eb4ad0c64c61c40b4ba01db5234239b99d5fdec965ceb", checked := Try.checked }
namespace Rows
def none {H : Type} : Left H := { results := [], args := [] }

/-- 'sextantlaw10.MultiKnown': WHATEVER THE INPUT: true; the input reads as it did. -/
def multiKnownSpec : ChangeSpec := { name := "multiKnown", fn := fun _ => fun
  | [] => { results := [.lit (.bool true)], args := [] }
  | _ => none }
def multiKnownRow : OpenClaim := { program := "ytmikkhfklmmkaaa", sum := "a062b37a2127dce1508eb4ad0c64c61c40b4ba01db5234239b99d5fdec965ceb", func := "sextant/sextantlaw10.MultiKnown", spec := "multiKnown", inPlace := ["internal/abi.NoEscape"], unfollowed := true, recurses := true, apart := false }
def MultiKnownSaid : Prop := multiKnownRow.holds Try.pinned (OpenSpec.ofChange multiKnownSpec)

/-- ITS FALSE NEIGHBOUR: 'it returns false'. Refute it at one input. -/
def multiKnownWrong : ChangeSpec := { name := "multiKnown", fn := fun _ => fun
  | [] => { results := [.lit (.bool false)], args := [] }
  | _ => none }
def MultiKnownWrongFalsely : Prop := multiKnownRow.holds Try.pinned (OpenSpec.ofChange multiKnownWrong)

/-- 'sextantlaw11.ProofExact': WHATEVER THE INPUT: true; the input reads as it did. -/
def proofExactSpec : ChangeSpec := { name := "proofExact", fn := fun _ => fun
  | [d1, d2, d3] => { results := [.lit (.bool true)], args := [d1, d2, d3] }
  | _ => none }
def proofExactRow : OpenClaim := { program := "ytmikkhfklmmkaaa", sum := "a062b37a2127dce1508eb4ad0c64c61c40b4ba01db5234239b99d5fdec965ceb", func := "sextant/sextantlaw11.ProofExact", spec := "proofExact", inPlace := ["internal/abi.NoEscape"], unfollowed := true, recurses := true, apart := false }
def ProofExactSaid : Prop := proofExactRow.holds Try.pinned (OpenSpec.ofChange proofExactSpec)

/-- ITS FALSE NEIGHBOUR: 'it returns false'. Refute it at one input. -/
def proofExactWrong : ChangeSpec := { name := "proofExact", fn := fun _ => fun
  | [d1, d2, d3] => { results := [.lit (.bool false)], args := [d1, d2, d3] }
  | _ => none }
def ProofExactWrongFalsely : Prop := proofExactRow.holds Try.pinned (OpenSpec.ofChange proofExactWrong)

/-- 'sextantlaw11.ProofBack': WHATEVER THE INPUT: true; the input reads as it did. -/
def proofBackSpec : ChangeSpec := { name := "proofBack", fn := fun _ => fun
  | [d1, d2, d3] => { results := [.lit (.bool true)], args := [d1, d2, d3] }
  | _ => none }
def proofBackRow : OpenClaim := { program := "ytmikkhfklmmkaaa", sum := "a062b37a2127dce1508eb4ad0c64c61c40b4ba01db5234239b99d5fdec965ceb", func := "sextant/sextantlaw11.ProofBack", spec := "proofBack", inPlace := ["internal/abi.NoEscape"], unfollowed := true, recurses := true, apart := false }
def ProofBackSaid : Prop := proofBackRow.holds Try.pinned (OpenSpec.ofChange proofBackSpec)

/-- ITS FALSE NEIGHBOUR: 'it returns false'. Refute it at one input. -/
def proofBackWrong : ChangeSpec := { name := "proofBack", fn := fun _ => fun
  | [d1, d2, d3] => { results := [.lit (.bool false)], args := [d1, d2, d3] }
  | _ => none }
def ProofBackWrongFalsely : Prop := proofBackRow.holds Try.pinned (OpenSpec.ofChange proofBackWrong)

/- THE SECOND FORM. 'bulk': how many values and letters a reading holds, each counted each time it is reached (what is shared counts as often as it is met; a slice's spare places count too). A statement '..UptoSaid' is the law's where the arguments, and the package variables that the reading takes, are together of bulk at most 1048576: NARROWER than '..Said'. Prove '..Said' where nothing that the law and all that it calls make is longer than what came in: it says more and counts as full. Else prove '..UptoSaid'. A law counts once. -/
mutual
def uptoBulk {H : Type} : DataW H → Nat
  | .lit (.string bytes) => bytes.length + 1
  | .lit _ => 1
  | .nil => 1
  | .ptr d => uptoBulk d + 1
  | .slice elems spare => uptoBulkAll elems + uptoBulkAll spare + 1
  | .agg parts => uptoBulkAll parts + 1
  | .iface _ d => uptoBulk d + 1
  | .map entries => uptoBulkEntries entries + 1
  | .held _ => 1
def uptoBulkAll {H : Type} : List (DataW H) → Nat
  | [] => 0
  | d :: r => uptoBulk d + uptoBulkAll r
def uptoBulkEntries {H : Type} : List (Lit × DataW H) → Nat
  | [] => 0
  | x :: r => uptoBulkEntry x + uptoBulkEntries r
def uptoBulkEntry {H : Type} : Lit × DataW H → Nat
  | (.string bytes, d) => bytes.length + uptoBulk d + 1
  | (_, d) => uptoBulk d + 1
 end
def uptoSmall : (H : Type) → List (DataW H) → Bool := fun _ ds => decide (uptoBulkAll ds ≤ 1048576)
def OpenSpec.upto (s : _root_.Go.ChangeSpec) : _root_.Go.OpenSpec := { _root_.Go.OpenSpec.ofChange s with cond := some uptoSmall }

/-- 'sextantlaw10.MultiKnown', WHERE WHAT IT READS IS OF BULK AT MOST 1048576: true; the input reads as it did. -/
def multiKnownUptoRow : OpenClaim := { program := "ytmikkhfklmmkaaa", sum := "a062b37a2127dce1508eb4ad0c64c61c40b4ba01db5234239b99d5fdec965ceb", func := "sextant/sextantlaw10.MultiKnown", spec := "multiKnown", inPlace := ["internal/abi.NoEscape"], unfollowed := true, recurses := true, apart := false, narrowed := true }
def MultiKnownUptoSaid : Prop := multiKnownUptoRow.holds Try.pinned (OpenSpec.upto multiKnownSpec)

/-- 'sextantlaw11.ProofExact', WHERE WHAT IT READS IS OF BULK AT MOST 1048576: true; the input reads as it did. -/
def proofExactUptoRow : OpenClaim := { program := "ytmikkhfklmmkaaa", sum := "a062b37a2127dce1508eb4ad0c64c61c40b4ba01db5234239b99d5fdec965ceb", func := "sextant/sextantlaw11.ProofExact", spec := "proofExact", inPlace := ["internal/abi.NoEscape"], unfollowed := true, recurses := true, apart := false, narrowed := true }
def ProofExactUptoSaid : Prop := proofExactUptoRow.holds Try.pinned (OpenSpec.upto proofExactSpec)

/-- 'sextantlaw11.ProofBack', WHERE WHAT IT READS IS OF BULK AT MOST 1048576: true; the input reads as it did. -/
def proofBackUptoRow : OpenClaim := { program := "ytmikkhfklmmkaaa", sum := "a062b37a2127dce1508eb4ad0c64c61c40b4ba01db5234239b99d5fdec965ceb", func := "sextant/sextantlaw11.ProofBack", spec := "proofBack", inPlace := ["internal/abi.NoEscape"], unfollowed := true, recurses := true, apart := false, narrowed := true }
def ProofBackUptoSaid : Prop := proofBackUptoRow.holds Try.pinned (OpenSpec.upto proofBackSpec)

end Rows
end Go.Proofs.Ytmikkhfklmmkaaa
