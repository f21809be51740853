/-
  NARROWER THAN 'FOR EVERY INPUT', by the rows' own cells (each row's printed sentence says how): UnpackReads: laid · UnpackBack: laid · UnpackOne: laid · UnpackKnown: laid.
  DERIVED. THE GIVEN ROWS OF THIS SEAT. 4 by the template 'for every input the law returns true; each argument reads behind the call as it read before'; 0 by the template 'total and deterministic' (their statements: YtmcmapcijncblaaDoorTotals.lean).
  GIVEN WITH THE SEED: the statements are not yours to turn. If you find one false, say at which input.
  Laid BY PROGRAM, IN A SANDBOX (cutbox-rows.mjs): the forced cells as the released guide's own fill.sh prints them over the translation 84203fa7634f78b4… (all of the seat's roots in one cut). By AI agents, Wed Nov 11 2026. No macro, syntax, notation, axiom, sorry.
-/
import Derived.Test.YtmcmapcijncblaaDoorChecked
import GoSem.Claim
import GoSem.ClaimJoined
import GoSem.ClaimMapViews
import Derived.JoinedTies
import Derived.KernelRfl
namespace Go.Proofs.YtmcmapcijncblaaDoor
/- THE CELL 'sum', in the pinned program and in every row, IS THE sha256 OF THE DUMP (.gsa) THAT YtmcmapcijncblaaDoorProg.lean LOADS. Nothing in Lean hashes anything: it is a label: what it is worth is what the hold of that sum in a sandbox is worth. -/
noncomputable def Tryd.pinned : Pinned := { name := "ytmcmapcijncblaadoor", sum := "84203fa7634f78b4161c87872429ded26b8eae2fae3bf42f41b301a3e1e3323c", checked := Tryd.checked }
namespace Rows
def none {H : Type} : Left H := { results := [], args := [] }

/- WHAT THE LISTED PACKAGE-LEVEL VARIABLES READ AS WHEN THE CALL BEGINS. Each datum BY PROGRAM (the guide's laid-datum.mjs) off the statement by which the dump's own 'gosem.cut.vars' lays the variable. In a bare row this is a premise. The card (YtmcmapcijncblaaDoorCards.lean) ties it to the program's text. -/
def laid_errors_errorType {H : Type} : DataW H := .iface "internal/reflectlite.rtype" (.agg [.ptr (.lit (.string [101, 114, 114, 111, 114]))])
def laid_sextant_unpack_nums {H : Type} : DataW H := .slice [.agg [.lit (.int .u8 0), .lit (.int .u8 127), .lit (.int .i64 0), .lit (.int .u64 0)], .agg [.lit (.int .u8 204), .lit (.int .u8 204), .lit (.int .i64 1), .lit (.int .u64 128)], .agg [.lit (.int .u8 205), .lit (.int .u8 205), .lit (.int .i64 2), .lit (.int .u64 256)], .agg [.lit (.int .u8 206), .lit (.int .u8 206), .lit (.int .i64 4), .lit (.int .u64 65536)], .agg [.lit (.int .u8 207), .lit (.int .u8 207), .lit (.int .i64 8), .lit (.int .u64 4294967296)]] []
def laid_sextant_unpack_bins {H : Type} : DataW H := .slice [.agg [.lit (.int .u8 196), .lit (.int .u8 196), .lit (.int .i64 1), .lit (.int .u64 0)], .agg [.lit (.int .u8 197), .lit (.int .u8 197), .lit (.int .i64 2), .lit (.int .u64 256)]] []
def laid_sextant_unpack_strs {H : Type} : DataW H := .slice [.agg [.lit (.int .u8 160), .lit (.int .u8 191), .lit (.int .i64 0), .lit (.int .u64 0)], .agg [.lit (.int .u8 217), .lit (.int .u8 217), .lit (.int .i64 1), .lit (.int .u64 32)], .agg [.lit (.int .u8 218), .lit (.int .u8 218), .lit (.int .i64 2), .lit (.int .u64 256)]] []
def laid_sextant_unpack_lists {H : Type} : DataW H := .slice [.agg [.lit (.int .u8 144), .lit (.int .u8 159), .lit (.int .i64 0), .lit (.int .u64 0)], .agg [.lit (.int .u8 220), .lit (.int .u8 220), .lit (.int .i64 2), .lit (.int .u64 16)]] []
def laid_sextant_unpack_pairs {H : Type} : DataW H := .slice [.agg [.lit (.int .u8 128), .lit (.int .u8 143), .lit (.int .i64 0), .lit (.int .u64 0)], .agg [.lit (.int .u8 222), .lit (.int .u8 222), .lit (.int .i64 2), .lit (.int .u64 16)]] []

/-- 'sextantlaw06.UnpackReads': WHATEVER THE INPUT: true; the input reads as it did. -/
def unpackReadsSpec : ChangeSpec := { name := "unpackReads", fn := fun _ => fun
  | [d1, d2, d3] => { results := [.lit (.bool true)], args := [d1, d2, d3] }
  | _ => none }
def unpackReadsRow : OpenClaim := { program := "ytmcmapcijncblaadoor", sum := "84203fa7634f78b4161c87872429ded26b8eae2fae3bf42f41b301a3e1e3323c", func := "sextant/sextantlaw06.UnpackReads", spec := "unpackReads", inPlace := ["internal/reflectlite.ValueOf", "(internal/reflectlite.Value).Type", "(internal/reflectlite.Value).IsNil", "internal/reflectlite.TypeOf", "(internal/reflectlite.Value).Elem", "(internal/reflectlite.Value).Set"], unfollowed := true, recurses := true, named := ["sextant/unpack.bins", "sextant/unpack.strs", "sextant/unpack.lists", "sextant/unpack.pairs", "sextant/unpack.nums", "errors.errorType"], apart := false, laid := [("errors.errorType", laid_errors_errorType), ("sextant/unpack.nums", laid_sextant_unpack_nums), ("sextant/unpack.bins", laid_sextant_unpack_bins), ("sextant/unpack.strs", laid_sextant_unpack_strs), ("sextant/unpack.lists", laid_sextant_unpack_lists), ("sextant/unpack.pairs", laid_sextant_unpack_pairs)] }
def UnpackReadsSaid : Prop := unpackReadsRow.holds Tryd.pinned (OpenSpec.ofChange unpackReadsSpec)

/-- ITS FALSE NEIGHBOUR: 'it returns false'. Refute it at one input. -/
def unpackReadsWrong : ChangeSpec := { name := "unpackReads", fn := fun _ => fun
  | [d1, d2, d3] => { results := [.lit (.bool false)], args := [d1, d2, d3] }
  | _ => none }
def UnpackReadsWrongFalsely : Prop := unpackReadsRow.holds Tryd.pinned (OpenSpec.ofChange unpackReadsWrong)

/-- 'sextantlaw06.UnpackBack': WHATEVER THE INPUT: true; the input reads as it did. -/
def unpackBackSpec : ChangeSpec := { name := "unpackBack", fn := fun _ => fun
  | [d] => { results := [.lit (.bool true)], args := [d] }
  | _ => none }
def unpackBackRow : OpenClaim := { program := "ytmcmapcijncblaadoor", sum := "84203fa7634f78b4161c87872429ded26b8eae2fae3bf42f41b301a3e1e3323c", func := "sextant/sextantlaw06.UnpackBack", spec := "unpackBack", inPlace := ["internal/reflectlite.ValueOf", "(internal/reflectlite.Value).Type", "(internal/reflectlite.Value).IsNil", "internal/reflectlite.TypeOf", "(internal/reflectlite.Value).Elem", "(internal/reflectlite.Value).Set"], unfollowed := true, recurses := true, named := ["sextant/unpack.pairs", "sextant/unpack.strs", "sextant/unpack.nums", "errors.errorType", "sextant/unpack.bins", "sextant/unpack.lists"], apart := false, laid := [("errors.errorType", laid_errors_errorType), ("sextant/unpack.nums", laid_sextant_unpack_nums), ("sextant/unpack.bins", laid_sextant_unpack_bins), ("sextant/unpack.strs", laid_sextant_unpack_strs), ("sextant/unpack.lists", laid_sextant_unpack_lists), ("sextant/unpack.pairs", laid_sextant_unpack_pairs)] }
def UnpackBackSaid : Prop := unpackBackRow.holds Tryd.pinned (OpenSpec.ofChange unpackBackSpec)

/-- ITS FALSE NEIGHBOUR: 'it returns false'. Refute it at one input. -/
def unpackBackWrong : ChangeSpec := { name := "unpackBack", fn := fun _ => fun
  | [d] => { results := [.lit (.bool false)], args := [d] }
  | _ => none }
def UnpackBackWrongFalsely : Prop := unpackBackRow.holds Tryd.pinned (OpenSpec.ofChange unpackBackWrong)

/-- 'sextantlaw06.UnpackOne': WHATEVER THE INPUT: true; the input reads as it did. -/
def unpackOneSpec : ChangeSpec := { name := "unpackOne", fn := fun _ => fun
  | [d1, d2] => { results := [.lit (.bool true)], args := [d1, d2] }
  | _ => none }
def unpackOneRow : OpenClaim := { program := "ytmcmapcijncblaadoor", sum := "84203fa7634f78b4161c87872429ded26b8eae2fae3bf42f41b301a3e1e3323c", func := "sextant/sextantlaw06.UnpackOne", spec := "unpackOne", inPlace := ["internal/reflectlite.ValueOf", "(internal/reflectlite.Value).Type", "(internal/reflectlite.Value).IsNil", "internal/reflectlite.TypeOf", "(internal/reflectlite.Value).Elem", "(internal/reflectlite.Value).Set"], unfollowed := true, recurses := true, named := ["sextant/unpack.pairs", "sextant/unpack.strs", "sextant/unpack.nums", "errors.errorType", "sextant/unpack.bins", "sextant/unpack.lists"], apart := false, laid := [("errors.errorType", laid_errors_errorType), ("sextant/unpack.nums", laid_sextant_unpack_nums), ("sextant/unpack.bins", laid_sextant_unpack_bins), ("sextant/unpack.strs", laid_sextant_unpack_strs), ("sextant/unpack.lists", laid_sextant_unpack_lists), ("sextant/unpack.pairs", laid_sextant_unpack_pairs)] }
def UnpackOneSaid : Prop := unpackOneRow.holds Tryd.pinned (OpenSpec.ofChange unpackOneSpec)

/-- ITS FALSE NEIGHBOUR: 'it returns false'. Refute it at one input. -/
def unpackOneWrong : ChangeSpec := { name := "unpackOne", fn := fun _ => fun
  | [d1, d2] => { results := [.lit (.bool false)], args := [d1, d2] }
  | _ => none }
def UnpackOneWrongFalsely : Prop := unpackOneRow.holds Tryd.pinned (OpenSpec.ofChange unpackOneWrong)

/-- 'sextantlaw06.UnpackKnown': WHATEVER THE INPUT: true; the input reads as it did. -/
def unpackKnownSpec : ChangeSpec := { name := "unpackKnown", fn := fun _ => fun
  | [] => { results := [.lit (.bool true)], args := [] }
  | _ => none }
def unpackKnownRow : OpenClaim := { program := "ytmcmapcijncblaadoor", sum := "84203fa7634f78b4161c87872429ded26b8eae2fae3bf42f41b301a3e1e3323c", func := "sextant/sextantlaw06.UnpackKnown", spec := "unpackKnown", inPlace := ["internal/reflectlite.ValueOf", "(internal/reflectlite.Value).Type", "(internal/reflectlite.Value).IsNil", "internal/reflectlite.TypeOf", "(internal/reflectlite.Value).Elem", "(internal/reflectlite.Value).Set"], unfollowed := true, recurses := true, named := ["sextant/unpack.nums", "errors.errorType", "sextant/unpack.lists", "sextant/unpack.pairs", "sextant/unpack.strs", "sextant/unpack.bins"], apart := false, laid := [("errors.errorType", laid_errors_errorType), ("sextant/unpack.nums", laid_sextant_unpack_nums), ("sextant/unpack.bins", laid_sextant_unpack_bins), ("sextant/unpack.strs", laid_sextant_unpack_strs), ("sextant/unpack.lists", laid_sextant_unpack_lists), ("sextant/unpack.pairs", laid_sextant_unpack_pairs)] }
def UnpackKnownSaid : Prop := unpackKnownRow.holds Tryd.pinned (OpenSpec.ofChange unpackKnownSpec)

/-- ITS FALSE NEIGHBOUR: 'it returns false'. Refute it at one input. -/
def unpackKnownWrong : ChangeSpec := { name := "unpackKnown", fn := fun _ => fun
  | [] => { results := [.lit (.bool false)], args := [] }
  | _ => none }
def UnpackKnownWrongFalsely : Prop := unpackKnownRow.holds Tryd.pinned (OpenSpec.ofChange unpackKnownWrong)

/- THE SECOND FORM. 'bulk': how many values and letters a reading holds, each counted each time it is reached (what is shared counts as often as it is met; a slice's spare places count too). A statement '..UptoSaid' is the law's where the arguments, and the package variables that the reading takes, are together of bulk at most 1048576: NARROWER than '..Said'. Prove '..Said' where nothing that the law and all that it calls make is longer than what came in: it says more and counts as full. Else prove '..UptoSaid'. A law counts once. -/
mutual
def uptoBulk {H : Type} : DataW H → Nat
  | .lit (.string bytes) => bytes.length + 1
  | .lit _ => 1
  | .nil => 1
  | .ptr d => uptoBulk d + 1
  | .slice elems spare => uptoBulkAll elems + uptoBulkAll spare + 1
  | .agg parts => uptoBulkAll parts + 1
  | .iface _ d => uptoBulk d + 1
  | .map entries => uptoBulkEntries entries + 1
  | .held _ => 1
def uptoBulkAll {H : Type} : List (DataW H) → Nat
  | [] => 0
  | d :: r => uptoBulk d + uptoBulkAll r
def uptoBulkEntries {H : Type} : List (Lit × DataW H) → Nat
  | [] => 0
  | x :: r => uptoBulkEntry x + uptoBulkEntries r
def uptoBulkEntry {H : Type} : Lit × DataW H → Nat
  | (.string bytes, d) => bytes.length + uptoBulk d + 1
  | (_, d) => uptoBulk d + 1
 end
def uptoSmall : (H : Type) → List (DataW H) → Bool := fun _ ds => decide (uptoBulkAll ds ≤ 1048576)
def OpenSpec.upto (s : _root_.Go.ChangeSpec) : _root_.Go.OpenSpec := { _root_.Go.OpenSpec.ofChange s with cond := some uptoSmall }

/-- 'sextantlaw06.UnpackReads', WHERE WHAT IT READS IS OF BULK AT MOST 1048576: true; the input reads as it did. -/
def unpackReadsUptoRow : OpenClaim := { program := "ytmcmapcijncblaadoor", sum := "84203fa7634f78b4161c87872429ded26b8eae2fae3bf42f41b301a3e1e3323c", func := "sextant/sextantlaw06.UnpackReads", spec := "unpackReads", inPlace := ["internal/reflectlite.ValueOf", "(internal/reflectlite.Value).Type", "(internal/reflectlite.Value).IsNil", "internal/reflectlite.TypeOf", "(internal/reflectlite.Value).Elem", "(internal/reflectlite.Value).Set"], unfollowed := true, recurses := true, named := ["sextant/unpack.bins", "sextant/unpack.strs", "sextant/unpack.lists", "sextant/unpack.pairs", "sextant/unpack.nums", "errors.errorType"], apart := false, laid := [("errors.errorType", laid_errors_errorType), ("sextant/unpack.nums", laid_sextant_unpack_nums), ("sextant/unpack.bins", laid_sextant_unpack_bins), ("sextant/unpack.strs", laid_sextant_unpack_strs), ("sextant/unpack.lists", laid_sextant_unpack_lists), ("sextant/unpack.pairs", laid_sextant_unpack_pairs)], narrowed := true }
def UnpackReadsUptoSaid : Prop := unpackReadsUptoRow.holds Tryd.pinned (OpenSpec.upto unpackReadsSpec)

/-- 'sextantlaw06.UnpackBack', WHERE WHAT IT READS IS OF BULK AT MOST 1048576: true; the input reads as it did. -/
def unpackBackUptoRow : OpenClaim := { program := "ytmcmapcijncblaadoor", sum := "84203fa7634f78b4161c87872429ded26b8eae2fae3bf42f41b301a3e1e3323c", func := "sextant/sextantlaw06.UnpackBack", spec := "unpackBack", inPlace := ["internal/reflectlite.ValueOf", "(internal/reflectlite.Value).Type", "(internal/reflectlite.Value).IsNil", "internal/reflectlite.TypeOf", "(internal/reflectlite.Value).Elem", "(internal/reflectlite.Value).Set"], unfollowed := true, recurses := true, named := ["sextant/unpack.pairs", "sextant/unpack.strs", "sextant/unpack.nums", "errors.errorType", "sextant/unpack.bins", "sextant/unpack.lists"], apart := false, laid := [("errors.errorType", laid_errors_errorType), ("sextant/unpack.nums", laid_sextant_unpack_nums), ("sextant/unpack.bins", laid_sextant_unpack_bins), ("sextant/unpack.strs", laid_sextant_unpack_strs), ("sextant/unpack.lists", laid_sextant_unpack_lists), ("sextant/unpack.pairs", laid_sextant_unpack_pairs)], narrowed := true }
def UnpackBackUptoSaid : Prop := unpackBackUptoRow.holds Tryd.pinned (OpenSpec.upto unpackBackSpec)

/-- 'sextantlaw06.UnpackOne', WHERE WHAT IT READS IS OF BULK AT MOST 1048576: true; the input reads as it did. -/
def unpackOneUptoRow : OpenClaim := { program := "ytmcmapcijncblaadoor", sum := "84203fa7634f78b4161c87872429ded26b8eae2fae3bf42f41b301a3e1e3323c", func := "sextant/sextantlaw06.UnpackOne", spec := "unpackOne", inPlace := ["internal/reflectlite.ValueOf", "(internal/reflectlite.Value).Type", "(internal/reflectlite.Value).IsNil", "internal/reflectlite.TypeOf", "(internal/reflectlite.Value).Elem", "(internal/reflectlite.Value).Set"], unfollowed := true, recurses := true, named := ["sextant/unpack.pairs", "sextant/unpack.strs", "sextant/unpack.nums", "errors.errorType", "sextant/unpack.bins", "sextant/unpack.lists"], apart := false, laid := [("errors.errorType", laid_errors_errorType), ("sextant/unpack.nums", laid_sextant_unpack_nums), ("sextant/unpack.bins", laid_sextant_unpack_bins), ("sextant/unpack.strs", laid_sextant_unpack_strs), ("sextant/unpack.lists", laid_sextant_unpack_lists), ("sextant/unpack.pairs", laid_sextant_unpack_pairs)], narrowed := true }
def UnpackOneUptoSaid : Prop := unpackOneUptoRow.holds Tryd.pinned (OpenSpec.upto unpackOneSpec)

/-- 'sextantlaw06.UnpackKnown', WHERE WHAT IT READS IS OF BULK AT MOST 1048576: true; the input reads as it did. -/
def unpackKnownUptoRow : OpenClaim := { program := "ytmcmapcijncblaadoor", sum := "84203fa7634f78b4161c87872429ded26b8eae2fae3bf42f41b301a3e1e3323c", func := "sextant/sextantlaw06.UnpackKnown", spec := "unpackKnown", inPlace := ["internal/reflectlite.ValueOf", "(internal/reflectlite.Value).Type", "(internal/reflectlite.Value).IsNil", "internal/reflectlite.TypeOf", "(internal/reflectlite.Value).Elem", "(internal/reflectlite.Value).Set"], unfollowed := true, recurses := true, named := ["sextant/unpack.nums", "errors.errorType", "sextant/unpack.lists", "sextant/unpack.pairs", "sextant/unpack.strs", "sextant/unpack.bins"], apart := false, laid := [("errors.errorType", laid_errors_errorType), ("sextant/unpack.nums", laid_sextant_unpack_nums), ("sextant/unpack.bins", laid_sextant_unpack_bins), ("sextant/unpack.strs", laid_sextant_unpack_strs), ("sextant/unpack.lists", laid_sextant_unpack_lists), ("sextant/unpack.pairs", laid_sextant_unpack_pairs)], narrowed := true }
def UnpackKnownUptoSaid : Prop := unpackKnownUptoRow.holds Tryd.pinned (OpenSpec.upto unpackKnownSpec)

end Rows
end Go.Proofs.YtmcmapcijncblaaDoor
