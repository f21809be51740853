/-
  NARROWER THAN 'FOR EVERY INPUT', by the rows' own cells (each row's printed sentence says how): HeaderRoots: laid · HeaderTxns: laid · HeaderKnown: laid · PartLists: laid · PartKnown: laid · HeaderChain: laid · HeaderBodies: laid · InclusionHeaders: laid · InclusionTxns: laid · InclusionAll: laid · InclusionKnown: laid · PartProves: laid.
  DERIVED. THE GIVEN ROWS OF THIS SEAT. 12 by the template 'for every input the law returns true; each argument reads behind the call as it read before'; 0 by the template 'total and deterministic' (their statements: YtpobhbdomldecaaGreatDoorTotals.lean).
  GIVEN WITH THE SEED: the statements are not yours to turn. If you find one false, say at which input.
  Laid BY PROGRAM, IN A SANDBOX (cutbox-rows.mjs): the forced cells as the released guide's own fill.sh prints them over the translation f2ca82d5a4c8a9b3… (all of the seat's roots in one cut). By AI agents, Wed Nov 11 2026. No macro, syntax, notation, axiom, sorry.
-/
import Derived.Test.YtpobhbdomldecaaGreatDoorChecked
import GoSem.Claim
import GoSem.ClaimJoined
import GoSem.ClaimMapViews
import Derived.JoinedTies
import Derived.KernelRfl
namespace Go.Proofs.YtpobhbdomldecaaGreatDoor
/- THE CELL 'sum', in the pinned program and in every row, IS THE sha256 OF THE DUMP (.gsa) THAT YtpobhbdomldecaaGreatDoorProg.lean LOADS. Nothing in Lean hashes anything: it is a label: what it is worth is what the hold of that sum in a sandbox is worth. -/
noncomputable def Tryz.pinned : Pinned := { name := "ytpobhbdomldecaagreatdoor", sum := "f2ca82d5a4c8a9b39c3a4c951c683a34295a84b985e1e1c472bd9b054db3f91a", checked := Tryz.checked }
namespace Rows
def none {H : Type} : Left H := { results := [], args := [] }

/- WHAT THE LISTED PACKAGE-LEVEL VARIABLES READ AS WHEN THE CALL BEGINS. Each datum BY PROGRAM (the guide's laid-datum.mjs) off the statement by which the dump's own 'gosem.cut.vars' lays the variable. In a bare row this is a premise. The card (YtpobhbdomldecaaGreatDoorCards.lean) ties it to the program's text. -/
def laid_sextant_pack_rows {H : Type} : DataW H := .agg [.slice [.agg [.lit (.int .u64 128), .lit (.int .u8 0), .lit (.int .i64 0)], .agg [.lit (.int .u64 256), .lit (.int .u8 204), .lit (.int .i64 1)], .agg [.lit (.int .u64 65536), .lit (.int .u8 205), .lit (.int .i64 2)], .agg [.lit (.int .u64 4294967296), .lit (.int .u8 206), .lit (.int .i64 4)], .agg [.lit (.int .u64 0), .lit (.int .u8 207), .lit (.int .i64 8)]] [], .slice [.agg [.lit (.int .u64 256), .lit (.int .u8 196), .lit (.int .i64 1)], .agg [.lit (.int .u64 65536), .lit (.int .u8 197), .lit (.int .i64 2)]] [], .slice [.agg [.lit (.int .u64 32), .lit (.int .u8 160), .lit (.int .i64 0)], .agg [.lit (.int .u64 256), .lit (.int .u8 217), .lit (.int .i64 1)], .agg [.lit (.int .u64 65536), .lit (.int .u8 218), .lit (.int .i64 2)]] [], .slice [.agg [.lit (.int .u64 16), .lit (.int .u8 144), .lit (.int .i64 0)], .agg [.lit (.int .u64 65536), .lit (.int .u8 220), .lit (.int .i64 2)]] [], .slice [.agg [.lit (.int .u64 16), .lit (.int .u8 128), .lit (.int .i64 0)], .agg [.lit (.int .u64 65536), .lit (.int .u8 222), .lit (.int .i64 2)]] []]
def laid_sextant_unpack_nums {H : Type} : DataW H := .slice [.agg [.lit (.int .u8 0), .lit (.int .u8 127), .lit (.int .i64 0), .lit (.int .u64 0)], .agg [.lit (.int .u8 204), .lit (.int .u8 204), .lit (.int .i64 1), .lit (.int .u64 128)], .agg [.lit (.int .u8 205), .lit (.int .u8 205), .lit (.int .i64 2), .lit (.int .u64 256)], .agg [.lit (.int .u8 206), .lit (.int .u8 206), .lit (.int .i64 4), .lit (.int .u64 65536)], .agg [.lit (.int .u8 207), .lit (.int .u8 207), .lit (.int .i64 8), .lit (.int .u64 4294967296)]] []
def laid_sextant_unpack_bins {H : Type} : DataW H := .slice [.agg [.lit (.int .u8 196), .lit (.int .u8 196), .lit (.int .i64 1), .lit (.int .u64 0)], .agg [.lit (.int .u8 197), .lit (.int .u8 197), .lit (.int .i64 2), .lit (.int .u64 256)]] []
def laid_errors_errorType {H : Type} : DataW H := .iface "internal/reflectlite.rtype" (.agg [.ptr (.lit (.string [101, 114, 114, 111, 114]))])
def laid_sextant_unpack_strs {H : Type} : DataW H := .slice [.agg [.lit (.int .u8 160), .lit (.int .u8 191), .lit (.int .i64 0), .lit (.int .u64 0)], .agg [.lit (.int .u8 217), .lit (.int .u8 217), .lit (.int .i64 1), .lit (.int .u64 32)], .agg [.lit (.int .u8 218), .lit (.int .u8 218), .lit (.int .i64 2), .lit (.int .u64 256)]] []
def laid_sextant_unpack_pairs {H : Type} : DataW H := .slice [.agg [.lit (.int .u8 128), .lit (.int .u8 143), .lit (.int .i64 0), .lit (.int .u64 0)], .agg [.lit (.int .u8 222), .lit (.int .u8 222), .lit (.int .i64 2), .lit (.int .u64 16)]] []

/-- 'sextantlaw23.HeaderRoots': WHATEVER THE INPUT: true; the input reads as it did. -/
def headerRootsSpec : ChangeSpec := { name := "headerRoots", fn := fun _ => fun
  | [d1, d2, d3] => { results := [.lit (.bool true)], args := [d1, d2, d3] }
  | _ => none }
def headerRootsRow : OpenClaim := { program := "ytpobhbdomldecaagreatdoor", sum := "f2ca82d5a4c8a9b39c3a4c951c683a34295a84b985e1e1c472bd9b054db3f91a", func := "sextant/sextantlaw23.HeaderRoots", spec := "headerRoots", inPlace := ["internal/abi.NoEscape"], unfollowed := true, recurses := true, named := ["sextant/pack.rows", "sextant/unpack.bins", "sextant/unpack.nums"], apart := false, laid := [("sextant/pack.rows", laid_sextant_pack_rows), ("sextant/unpack.nums", laid_sextant_unpack_nums), ("sextant/unpack.bins", laid_sextant_unpack_bins)] }
def HeaderRootsSaid : Prop := headerRootsRow.holds Tryz.pinned (OpenSpec.ofChange headerRootsSpec)

/-- ITS FALSE NEIGHBOUR: 'it returns false'. Refute it at one input. -/
def headerRootsWrong : ChangeSpec := { name := "headerRoots", fn := fun _ => fun
  | [d1, d2, d3] => { results := [.lit (.bool false)], args := [d1, d2, d3] }
  | _ => none }
def HeaderRootsWrongFalsely : Prop := headerRootsRow.holds Tryz.pinned (OpenSpec.ofChange headerRootsWrong)

/-- 'sextantlaw23.HeaderTxns': WHATEVER THE INPUT: true; the input reads as it did. -/
def headerTxnsSpec : ChangeSpec := { name := "headerTxns", fn := fun _ => fun
  | [d] => { results := [.lit (.bool true)], args := [d] }
  | _ => none }
def headerTxnsRow : OpenClaim := { program := "ytpobhbdomldecaagreatdoor", sum := "f2ca82d5a4c8a9b39c3a4c951c683a34295a84b985e1e1c472bd9b054db3f91a", func := "sextant/sextantlaw23.HeaderTxns", spec := "headerTxns", inPlace := ["internal/abi.NoEscape"], unfollowed := true, recurses := true, named := ["sextant/pack.rows", "sextant/unpack.bins", "sextant/unpack.nums"], apart := false, laid := [("sextant/pack.rows", laid_sextant_pack_rows), ("sextant/unpack.nums", laid_sextant_unpack_nums), ("sextant/unpack.bins", laid_sextant_unpack_bins)] }
def HeaderTxnsSaid : Prop := headerTxnsRow.holds Tryz.pinned (OpenSpec.ofChange headerTxnsSpec)

/-- ITS FALSE NEIGHBOUR: 'it returns false'. Refute it at one input. -/
def headerTxnsWrong : ChangeSpec := { name := "headerTxns", fn := fun _ => fun
  | [d] => { results := [.lit (.bool false)], args := [d] }
  | _ => none }
def HeaderTxnsWrongFalsely : Prop := headerTxnsRow.holds Tryz.pinned (OpenSpec.ofChange headerTxnsWrong)

/-- 'sextantlaw23.HeaderKnown': WHATEVER THE INPUT: true; the input reads as it did. -/
def headerKnownSpec : ChangeSpec := { name := "headerKnown", fn := fun _ => fun
  | [] => { results := [.lit (.bool true)], args := [] }
  | _ => none }
def headerKnownRow : OpenClaim := { program := "ytpobhbdomldecaagreatdoor", sum := "f2ca82d5a4c8a9b39c3a4c951c683a34295a84b985e1e1c472bd9b054db3f91a", func := "sextant/sextantlaw23.HeaderKnown", spec := "headerKnown", inPlace := ["internal/abi.NoEscape"], unfollowed := true, recurses := true, named := ["sextant/pack.rows", "sextant/unpack.bins", "sextant/unpack.nums"], apart := false, laid := [("sextant/pack.rows", laid_sextant_pack_rows), ("sextant/unpack.nums", laid_sextant_unpack_nums), ("sextant/unpack.bins", laid_sextant_unpack_bins)] }
def HeaderKnownSaid : Prop := headerKnownRow.holds Tryz.pinned (OpenSpec.ofChange headerKnownSpec)

/-- ITS FALSE NEIGHBOUR: 'it returns false'. Refute it at one input. -/
def headerKnownWrong : ChangeSpec := { name := "headerKnown", fn := fun _ => fun
  | [] => { results := [.lit (.bool false)], args := [] }
  | _ => none }
def HeaderKnownWrongFalsely : Prop := headerKnownRow.holds Tryz.pinned (OpenSpec.ofChange headerKnownWrong)

/-- 'sextantlaw15.PartLists': WHATEVER THE INPUT: true; the input reads as it did. -/
def partListsSpec : ChangeSpec := { name := "partLists", fn := fun _ => fun
  | [d] => { results := [.lit (.bool true)], args := [d] }
  | _ => none }
def partListsRow : OpenClaim := { program := "ytpobhbdomldecaagreatdoor", sum := "f2ca82d5a4c8a9b39c3a4c951c683a34295a84b985e1e1c472bd9b054db3f91a", func := "sextant/sextantlaw15.PartLists", spec := "partLists", inPlace := ["math/bits.Add64", "internal/abi.NoEscape", "internal/bytealg.MakeNoZero"], unfollowed := true, recurses := true, named := ["sextant/pack.rows", "sextant/unpack.nums", "sextant/unpack.bins"], apart := false, laid := [("sextant/pack.rows", laid_sextant_pack_rows), ("sextant/unpack.nums", laid_sextant_unpack_nums), ("sextant/unpack.bins", laid_sextant_unpack_bins)] }
def PartListsSaid : Prop := partListsRow.holds Tryz.pinned (OpenSpec.ofChange partListsSpec)

/-- ITS FALSE NEIGHBOUR: 'it returns false'. Refute it at one input. -/
def partListsWrong : ChangeSpec := { name := "partLists", fn := fun _ => fun
  | [d] => { results := [.lit (.bool false)], args := [d] }
  | _ => none }
def PartListsWrongFalsely : Prop := partListsRow.holds Tryz.pinned (OpenSpec.ofChange partListsWrong)

/-- 'sextantlaw15.PartKnown': WHATEVER THE INPUT: true; the input reads as it did. -/
def partKnownSpec : ChangeSpec := { name := "partKnown", fn := fun _ => fun
  | [] => { results := [.lit (.bool true)], args := [] }
  | _ => none }
def partKnownRow : OpenClaim := { program := "ytpobhbdomldecaagreatdoor", sum := "f2ca82d5a4c8a9b39c3a4c951c683a34295a84b985e1e1c472bd9b054db3f91a", func := "sextant/sextantlaw15.PartKnown", spec := "partKnown", inPlace := ["internal/abi.NoEscape", "internal/bytealg.MakeNoZero", "math/bits.Add64"], unfollowed := true, recurses := true, named := ["sextant/pack.rows", "sextant/unpack.nums", "sextant/unpack.bins"], apart := false, laid := [("sextant/pack.rows", laid_sextant_pack_rows), ("sextant/unpack.nums", laid_sextant_unpack_nums), ("sextant/unpack.bins", laid_sextant_unpack_bins)] }
def PartKnownSaid : Prop := partKnownRow.holds Tryz.pinned (OpenSpec.ofChange partKnownSpec)

/-- ITS FALSE NEIGHBOUR: 'it returns false'. Refute it at one input. -/
def partKnownWrong : ChangeSpec := { name := "partKnown", fn := fun _ => fun
  | [] => { results := [.lit (.bool false)], args := [] }
  | _ => none }
def PartKnownWrongFalsely : Prop := partKnownRow.holds Tryz.pinned (OpenSpec.ofChange partKnownWrong)

/-- 'sextantlaw23.HeaderChain': WHATEVER THE INPUT: true; the input reads as it did. -/
def headerChainSpec : ChangeSpec := { name := "headerChain", fn := fun _ => fun
  | [d1, d2, d3] => { results := [.lit (.bool true)], args := [d1, d2, d3] }
  | _ => none }
def headerChainRow : OpenClaim := { program := "ytpobhbdomldecaagreatdoor", sum := "f2ca82d5a4c8a9b39c3a4c951c683a34295a84b985e1e1c472bd9b054db3f91a", func := "sextant/sextantlaw23.HeaderChain", spec := "headerChain", inPlace := ["internal/abi.NoEscape"], unfollowed := true, recurses := true, named := ["sextant/pack.rows", "sextant/unpack.bins", "sextant/unpack.nums"], apart := false, laid := [("sextant/pack.rows", laid_sextant_pack_rows), ("sextant/unpack.nums", laid_sextant_unpack_nums), ("sextant/unpack.bins", laid_sextant_unpack_bins)] }
def HeaderChainSaid : Prop := headerChainRow.holds Tryz.pinned (OpenSpec.ofChange headerChainSpec)

/-- ITS FALSE NEIGHBOUR: 'it returns false'. Refute it at one input. -/
def headerChainWrong : ChangeSpec := { name := "headerChain", fn := fun _ => fun
  | [d1, d2, d3] => { results := [.lit (.bool false)], args := [d1, d2, d3] }
  | _ => none }
def HeaderChainWrongFalsely : Prop := headerChainRow.holds Tryz.pinned (OpenSpec.ofChange headerChainWrong)

/-- 'sextantlaw23.HeaderBodies': WHATEVER THE INPUT: true; the input reads as it did. -/
def headerBodiesSpec : ChangeSpec := { name := "headerBodies", fn := fun _ => fun
  | [d1, d2] => { results := [.lit (.bool true)], args := [d1, d2] }
  | _ => none }
def headerBodiesRow : OpenClaim := { program := "ytpobhbdomldecaagreatdoor", sum := "f2ca82d5a4c8a9b39c3a4c951c683a34295a84b985e1e1c472bd9b054db3f91a", func := "sextant/sextantlaw23.HeaderBodies", spec := "headerBodies", inPlace := ["internal/abi.NoEscape"], unfollowed := true, recurses := true, named := ["sextant/pack.rows", "sextant/unpack.bins", "sextant/unpack.nums"], apart := false, laid := [("sextant/pack.rows", laid_sextant_pack_rows), ("sextant/unpack.nums", laid_sextant_unpack_nums), ("sextant/unpack.bins", laid_sextant_unpack_bins)] }
def HeaderBodiesSaid : Prop := headerBodiesRow.holds Tryz.pinned (OpenSpec.ofChange headerBodiesSpec)

/-- ITS FALSE NEIGHBOUR: 'it returns false'. Refute it at one input. -/
def headerBodiesWrong : ChangeSpec := { name := "headerBodies", fn := fun _ => fun
  | [d1, d2] => { results := [.lit (.bool false)], args := [d1, d2] }
  | _ => none }
def HeaderBodiesWrongFalsely : Prop := headerBodiesRow.holds Tryz.pinned (OpenSpec.ofChange headerBodiesWrong)

/-- 'sextantlaw27.InclusionHeaders': WHATEVER THE INPUT: true; the input reads as it did. -/
def inclusionHeadersSpec : ChangeSpec := { name := "inclusionHeaders", fn := fun _ => fun
  | [d1, d2, d3] => { results := [.lit (.bool true)], args := [d1, d2, d3] }
  | _ => none }
def inclusionHeadersRow : OpenClaim := { program := "ytpobhbdomldecaagreatdoor", sum := "f2ca82d5a4c8a9b39c3a4c951c683a34295a84b985e1e1c472bd9b054db3f91a", func := "sextant/sextantlaw27.InclusionHeaders", spec := "inclusionHeaders", inPlace := ["internal/abi.NoEscape", "internal/reflectlite.TypeOf", "internal/reflectlite.ValueOf", "(internal/reflectlite.Value).Type", "(internal/reflectlite.Value).IsNil", "(internal/reflectlite.Value).Elem", "(internal/reflectlite.Value).Set"], unfollowed := true, recurses := true, named := ["sextant/pack.rows", "sextant/unpack.bins", "sextant/unpack.nums", "sextant/unpack.pairs", "sextant/unpack.strs", "errors.errorType"], apart := false, laid := [("sextant/pack.rows", laid_sextant_pack_rows), ("errors.errorType", laid_errors_errorType), ("sextant/unpack.nums", laid_sextant_unpack_nums), ("sextant/unpack.bins", laid_sextant_unpack_bins), ("sextant/unpack.strs", laid_sextant_unpack_strs), ("sextant/unpack.pairs", laid_sextant_unpack_pairs)] }
def InclusionHeadersSaid : Prop := inclusionHeadersRow.holds Tryz.pinned (OpenSpec.ofChange inclusionHeadersSpec)

/-- ITS FALSE NEIGHBOUR: 'it returns false'. Refute it at one input. -/
def inclusionHeadersWrong : ChangeSpec := { name := "inclusionHeaders", fn := fun _ => fun
  | [d1, d2, d3] => { results := [.lit (.bool false)], args := [d1, d2, d3] }
  | _ => none }
def InclusionHeadersWrongFalsely : Prop := inclusionHeadersRow.holds Tryz.pinned (OpenSpec.ofChange inclusionHeadersWrong)

/-- 'sextantlaw27.InclusionTxns': WHATEVER THE INPUT: true; the input reads as it did. -/
def inclusionTxnsSpec : ChangeSpec := { name := "inclusionTxns", fn := fun _ => fun
  | [d1, d2, d3] => { results := [.lit (.bool true)], args := [d1, d2, d3] }
  | _ => none }
def inclusionTxnsRow : OpenClaim := { program := "ytpobhbdomldecaagreatdoor", sum := "f2ca82d5a4c8a9b39c3a4c951c683a34295a84b985e1e1c472bd9b054db3f91a", func := "sextant/sextantlaw27.InclusionTxns", spec := "inclusionTxns", inPlace := ["internal/abi.NoEscape", "internal/reflectlite.TypeOf", "internal/reflectlite.ValueOf", "(internal/reflectlite.Value).Type", "(internal/reflectlite.Value).IsNil", "(internal/reflectlite.Value).Elem", "(internal/reflectlite.Value).Set"], unfollowed := true, recurses := true, named := ["sextant/pack.rows", "sextant/unpack.bins", "sextant/unpack.nums", "sextant/unpack.pairs", "sextant/unpack.strs", "errors.errorType"], apart := false, laid := [("sextant/pack.rows", laid_sextant_pack_rows), ("errors.errorType", laid_errors_errorType), ("sextant/unpack.nums", laid_sextant_unpack_nums), ("sextant/unpack.bins", laid_sextant_unpack_bins), ("sextant/unpack.strs", laid_sextant_unpack_strs), ("sextant/unpack.pairs", laid_sextant_unpack_pairs)] }
def InclusionTxnsSaid : Prop := inclusionTxnsRow.holds Tryz.pinned (OpenSpec.ofChange inclusionTxnsSpec)

/-- ITS FALSE NEIGHBOUR: 'it returns false'. Refute it at one input. -/
def inclusionTxnsWrong : ChangeSpec := { name := "inclusionTxns", fn := fun _ => fun
  | [d1, d2, d3] => { results := [.lit (.bool false)], args := [d1, d2, d3] }
  | _ => none }
def InclusionTxnsWrongFalsely : Prop := inclusionTxnsRow.holds Tryz.pinned (OpenSpec.ofChange inclusionTxnsWrong)

/-- 'sextantlaw27.InclusionAll': WHATEVER THE INPUT: true; the input reads as it did. -/
def inclusionAllSpec : ChangeSpec := { name := "inclusionAll", fn := fun _ => fun
  | [d1, d2, d3] => { results := [.lit (.bool true)], args := [d1, d2, d3] }
  | _ => none }
def inclusionAllRow : OpenClaim := { program := "ytpobhbdomldecaagreatdoor", sum := "f2ca82d5a4c8a9b39c3a4c951c683a34295a84b985e1e1c472bd9b054db3f91a", func := "sextant/sextantlaw27.InclusionAll", spec := "inclusionAll", inPlace := ["internal/abi.NoEscape", "internal/reflectlite.TypeOf", "internal/reflectlite.ValueOf", "(internal/reflectlite.Value).Type", "(internal/reflectlite.Value).IsNil", "(internal/reflectlite.Value).Elem", "(internal/reflectlite.Value).Set"], unfollowed := true, recurses := true, named := ["sextant/pack.rows", "sextant/unpack.bins", "sextant/unpack.nums", "sextant/unpack.pairs", "sextant/unpack.strs", "errors.errorType"], apart := false, laid := [("sextant/pack.rows", laid_sextant_pack_rows), ("errors.errorType", laid_errors_errorType), ("sextant/unpack.nums", laid_sextant_unpack_nums), ("sextant/unpack.bins", laid_sextant_unpack_bins), ("sextant/unpack.strs", laid_sextant_unpack_strs), ("sextant/unpack.pairs", laid_sextant_unpack_pairs)] }
def InclusionAllSaid : Prop := inclusionAllRow.holds Tryz.pinned (OpenSpec.ofChange inclusionAllSpec)

/-- ITS FALSE NEIGHBOUR: 'it returns false'. Refute it at one input. -/
def inclusionAllWrong : ChangeSpec := { name := "inclusionAll", fn := fun _ => fun
  | [d1, d2, d3] => { results := [.lit (.bool false)], args := [d1, d2, d3] }
  | _ => none }
def InclusionAllWrongFalsely : Prop := inclusionAllRow.holds Tryz.pinned (OpenSpec.ofChange inclusionAllWrong)

/-- 'sextantlaw27.InclusionKnown': WHATEVER THE INPUT: true; the input reads as it did. -/
def inclusionKnownSpec : ChangeSpec := { name := "inclusionKnown", fn := fun _ => fun
  | [] => { results := [.lit (.bool true)], args := [] }
  | _ => none }
def inclusionKnownRow : OpenClaim := { program := "ytpobhbdomldecaagreatdoor", sum := "f2ca82d5a4c8a9b39c3a4c951c683a34295a84b985e1e1c472bd9b054db3f91a", func := "sextant/sextantlaw27.InclusionKnown", spec := "inclusionKnown", inPlace := ["internal/abi.NoEscape", "internal/reflectlite.TypeOf", "internal/reflectlite.ValueOf", "(internal/reflectlite.Value).Type", "(internal/reflectlite.Value).IsNil", "(internal/reflectlite.Value).Elem", "(internal/reflectlite.Value).Set"], unfollowed := true, recurses := true, named := ["sextant/pack.rows", "sextant/unpack.bins", "sextant/unpack.nums", "sextant/unpack.pairs", "sextant/unpack.strs", "errors.errorType"], apart := false, laid := [("sextant/pack.rows", laid_sextant_pack_rows), ("errors.errorType", laid_errors_errorType), ("sextant/unpack.nums", laid_sextant_unpack_nums), ("sextant/unpack.bins", laid_sextant_unpack_bins), ("sextant/unpack.strs", laid_sextant_unpack_strs), ("sextant/unpack.pairs", laid_sextant_unpack_pairs)] }
def InclusionKnownSaid : Prop := inclusionKnownRow.holds Tryz.pinned (OpenSpec.ofChange inclusionKnownSpec)

/-- ITS FALSE NEIGHBOUR: 'it returns false'. Refute it at one input. -/
def inclusionKnownWrong : ChangeSpec := { name := "inclusionKnown", fn := fun _ => fun
  | [] => { results := [.lit (.bool false)], args := [] }
  | _ => none }
def InclusionKnownWrongFalsely : Prop := inclusionKnownRow.holds Tryz.pinned (OpenSpec.ofChange inclusionKnownWrong)

/-- 'sextantlaw15.PartProves': WHATEVER THE INPUT: true; the input reads as it did. -/
def partProvesSpec : ChangeSpec := { name := "partProves", fn := fun _ => fun
  | [d1, d2] => { results := [.lit (.bool true)], args := [d1, d2] }
  | _ => none }
def partProvesRow : OpenClaim := { program := "ytpobhbdomldecaagreatdoor", sum := "f2ca82d5a4c8a9b39c3a4c951c683a34295a84b985e1e1c472bd9b054db3f91a", func := "sextant/sextantlaw15.PartProves", spec := "partProves", inPlace := ["internal/abi.NoEscape", "internal/bytealg.MakeNoZero", "math/bits.Add64", "internal/reflectlite.TypeOf", "internal/reflectlite.ValueOf", "(internal/reflectlite.Value).Type", "(internal/reflectlite.Value).IsNil", "(internal/reflectlite.Value).Elem", "(internal/reflectlite.Value).Set"], unfollowed := true, recurses := true, named := ["sextant/pack.rows", "sextant/unpack.nums", "sextant/unpack.bins", "sextant/unpack.pairs", "sextant/unpack.strs", "errors.errorType"], apart := false, laid := [("sextant/pack.rows", laid_sextant_pack_rows), ("errors.errorType", laid_errors_errorType), ("sextant/unpack.nums", laid_sextant_unpack_nums), ("sextant/unpack.bins", laid_sextant_unpack_bins), ("sextant/unpack.strs", laid_sextant_unpack_strs), ("sextant/unpack.pairs", laid_sextant_unpack_pairs)] }
def PartProvesSaid : Prop := partProvesRow.holds Tryz.pinned (OpenSpec.ofChange partProvesSpec)

/-- ITS FALSE NEIGHBOUR: 'it returns false'. Refute it at one input. -/
def partProvesWrong : ChangeSpec := { name := "partProves", fn := fun _ => fun
  | [d1, d2] => { results := [.lit (.bool false)], args := [d1, d2] }
  | _ => none }
def PartProvesWrongFalsely : Prop := partProvesRow.holds Tryz.pinned (OpenSpec.ofChange partProvesWrong)

/- THE SECOND FORM. 'bulk': how many values and letters a reading holds, each counted each time it is reached (what is shared counts as often as it is met; a slice's spare places count too). A statement '..UptoSaid' is the law's where the arguments, and the package variables that the reading takes, are together of bulk at most 1048576: NARROWER than '..Said'. Prove '..Said' where nothing that the law and all that it calls make is longer than what came in: it says more and counts as full. Else prove '..UptoSaid'. A law counts once. -/
mutual
def uptoBulk {H : Type} : DataW H → Nat
  | .lit (.string bytes) => bytes.length + 1
  | .lit _ => 1
  | .nil => 1
  | .ptr d => uptoBulk d + 1
  | .slice elems spare => uptoBulkAll elems + uptoBulkAll spare + 1
  | .agg parts => uptoBulkAll parts + 1
  | .iface _ d => uptoBulk d + 1
  | .map entries => uptoBulkEntries entries + 1
  | .held _ => 1
def uptoBulkAll {H : Type} : List (DataW H) → Nat
  | [] => 0
  | d :: r => uptoBulk d + uptoBulkAll r
def uptoBulkEntries {H : Type} : List (Lit × DataW H) → Nat
  | [] => 0
  | x :: r => uptoBulkEntry x + uptoBulkEntries r
def uptoBulkEntry {H : Type} : Lit × DataW H → Nat
  | (.string bytes, d) => bytes.length + uptoBulk d + 1
  | (_, d) => uptoBulk d + 1
 end
def uptoSmall : (H : Type) → List (DataW H) → Bool := fun _ ds => decide (uptoBulkAll ds ≤ 1048576)
def OpenSpec.upto (s : _root_.Go.ChangeSpec) : _root_.Go.OpenSpec := { _root_.Go.OpenSpec.ofChange s with cond := some uptoSmall }

/-- 'sextantlaw23.HeaderRoots', WHERE WHAT IT READS IS OF BULK AT MOST 1048576: true; the input reads as it did. -/
def headerRootsUptoRow : OpenClaim := { program := "ytpobhbdomldecaagreatdoor", sum := "f2ca82d5a4c8a9b39c3a4c951c683a34295a84b985e1e1c472bd9b054db3f91a", func := "sextant/sextantlaw23.HeaderRoots", spec := "headerRoots", inPlace := ["internal/abi.NoEscape"], unfollowed := true, recurses := true, named := ["sextant/pack.rows", "sextant/unpack.bins", "sextant/unpack.nums"], apart := false, laid := [("sextant/pack.rows", laid_sextant_pack_rows), ("sextant/unpack.nums", laid_sextant_unpack_nums), ("sextant/unpack.bins", laid_sextant_unpack_bins)], narrowed := true }
def HeaderRootsUptoSaid : Prop := headerRootsUptoRow.holds Tryz.pinned (OpenSpec.upto headerRootsSpec)

/-- 'sextantlaw23.HeaderTxns', WHERE WHAT IT READS IS OF BULK AT MOST 1048576: true; the input reads as it did. -/
def headerTxnsUptoRow : OpenClaim := { program := "ytpobhbdomldecaagreatdoor", sum := "f2ca82d5a4c8a9b39c3a4c951c683a34295a84b985e1e1c472bd9b054db3f91a", func := "sextant/sextantlaw23.HeaderTxns", spec := "headerTxns", inPlace := ["internal/abi.NoEscape"], unfollowed := true, recurses := true, named := ["sextant/pack.rows", "sextant/unpack.bins", "sextant/unpack.nums"], apart := false, laid := [("sextant/pack.rows", laid_sextant_pack_rows), ("sextant/unpack.nums", laid_sextant_unpack_nums), ("sextant/unpack.bins", laid_sextant_unpack_bins)], narrowed := true }
def HeaderTxnsUptoSaid : Prop := headerTxnsUptoRow.holds Tryz.pinned (OpenSpec.upto headerTxnsSpec)

/-- 'sextantlaw23.HeaderKnown', WHERE WHAT IT READS IS OF BULK AT MOST 1048576: true; the input reads as it did. -/
def headerKnownUptoRow : OpenClaim := { program := "ytpobhbdomldecaagreatdoor", sum := "f2ca82d5a4c8a9b39c3a4c951c683a34295a84b985e1e1c472bd9b054db3f91a", func := "sextant/sextantlaw23.HeaderKnown", spec := "headerKnown", inPlace := ["internal/abi.NoEscape"], unfollowed := true, recurses := true, named := ["sextant/pack.rows", "sextant/unpack.bins", "sextant/unpack.nums"], apart := false, laid := [("sextant/pack.rows", laid_sextant_pack_rows), ("sextant/unpack.nums", laid_sextant_unpack_nums), ("sextant/unpack.bins", laid_sextant_unpack_bins)], narrowed := true }
def HeaderKnownUptoSaid : Prop := headerKnownUptoRow.holds Tryz.pinned (OpenSpec.upto headerKnownSpec)

/-- 'sextantlaw15.PartLists', WHERE WHAT IT READS IS OF BULK AT MOST 1048576: true; the input reads as it did. -/
def partListsUptoRow : OpenClaim := { program := "ytpobhbdomldecaagreatdoor", sum := "f2ca82d5a4c8a9b39c3a4c951c683a34295a84b985e1e1c472bd9b054db3f91a", func := "sextant/sextantlaw15.PartLists", spec := "partLists", inPlace := ["math/bits.Add64", "internal/abi.NoEscape", "internal/bytealg.MakeNoZero"], unfollowed := true, recurses := true, named := ["sextant/pack.rows", "sextant/unpack.nums", "sextant/unpack.bins"], apart := false, laid := [("sextant/pack.rows", laid_sextant_pack_rows), ("sextant/unpack.nums", laid_sextant_unpack_nums), ("sextant/unpack.bins", laid_sextant_unpack_bins)], narrowed := true }
def PartListsUptoSaid : Prop := partListsUptoRow.holds Tryz.pinned (OpenSpec.upto partListsSpec)

/-- 'sextantlaw15.PartKnown', WHERE WHAT IT READS IS OF BULK AT MOST 1048576: true; the input reads as it did. -/
def partKnownUptoRow : OpenClaim := { program := "ytpobhbdomldecaagreatdoor", sum := "f2ca82d5a4c8a9b39c3a4c951c683a34295a84b985e1e1c472bd9b054db3f91a", func := "sextant/sextantlaw15.PartKnown", spec := "partKnown", inPlace := ["internal/abi.NoEscape", "internal/bytealg.MakeNoZero", "math/bits.Add64"], unfollowed := true, recurses := true, named := ["sextant/pack.rows", "sextant/unpack.nums", "sextant/unpack.bins"], apart := false, laid := [("sextant/pack.rows", laid_sextant_pack_rows), ("sextant/unpack.nums", laid_sextant_unpack_nums), ("sextant/unpack.bins", laid_sextant_unpack_bins)], narrowed := true }
def PartKnownUptoSaid : Prop := partKnownUptoRow.holds Tryz.pinned (OpenSpec.upto partKnownSpec)

/-- 'sextantlaw23.HeaderChain', WHERE WHAT IT READS IS OF BULK AT MOST 1048576: true; the input reads as it did. -/
def headerChainUptoRow : OpenClaim := { program := "ytpobhbdomldecaagreatdoor", sum := "f2ca82d5a4c8a9b39c3a4c951c683a34295a84b985e1e1c472bd9b054db3f91a", func := "sextant/sextantlaw23.HeaderChain", spec := "headerChain", inPlace := ["internal/abi.NoEscape"], unfollowed := true, recurses := true, named := ["sextant/pack.rows", "sextant/unpack.bins", "sextant/unpack.nums"], apart := false, laid := [("sextant/pack.rows", laid_sextant_pack_rows), ("sextant/unpack.nums", laid_sextant_unpack_nums), ("sextant/unpack.bins", laid_sextant_unpack_bins)], narrowed := true }
def HeaderChainUptoSaid : Prop := headerChainUptoRow.holds Tryz.pinned (OpenSpec.upto headerChainSpec)

/-- 'sextantlaw23.HeaderBodies', WHERE WHAT IT READS IS OF BULK AT MOST 1048576: true; the input reads as it did. -/
def headerBodiesUptoRow : OpenClaim := { program := "ytpobhbdomldecaagreatdoor", sum := "f2ca82d5a4c8a9b39c3a4c951c683a34295a84b985e1e1c472bd9b054db3f91a", func := "sextant/sextantlaw23.HeaderBodies", spec := "headerBodies", inPlace := ["internal/abi.NoEscape"], unfollowed := true, recurses := true, named := ["sextant/pack.rows", "sextant/unpack.bins", "sextant/unpack.nums"], apart := false, laid := [("sextant/pack.rows", laid_sextant_pack_rows), ("sextant/unpack.nums", laid_sextant_unpack_nums), ("sextant/unpack.bins", laid_sextant_unpack_bins)], narrowed := true }
def HeaderBodiesUptoSaid : Prop := headerBodiesUptoRow.holds Tryz.pinned (OpenSpec.upto headerBodiesSpec)

/-- 'sextantlaw27.InclusionHeaders', WHERE WHAT IT READS IS OF BULK AT MOST 1048576: true; the input reads as it did. -/
def inclusionHeadersUptoRow : OpenClaim := { program := "ytpobhbdomldecaagreatdoor", sum := "f2ca82d5a4c8a9b39c3a4c951c683a34295a84b985e1e1c472bd9b054db3f91a", func := "sextant/sextantlaw27.InclusionHeaders", spec := "inclusionHeaders", inPlace := ["internal/abi.NoEscape", "internal/reflectlite.TypeOf", "internal/reflectlite.ValueOf", "(internal/reflectlite.Value).Type", "(internal/reflectlite.Value).IsNil", "(internal/reflectlite.Value).Elem", "(internal/reflectlite.Value).Set"], unfollowed := true, recurses := true, named := ["sextant/pack.rows", "sextant/unpack.bins", "sextant/unpack.nums", "sextant/unpack.pairs", "sextant/unpack.strs", "errors.errorType"], apart := false, laid := [("sextant/pack.rows", laid_sextant_pack_rows), ("errors.errorType", laid_errors_errorType), ("sextant/unpack.nums", laid_sextant_unpack_nums), ("sextant/unpack.bins", laid_sextant_unpack_bins), ("sextant/unpack.strs", laid_sextant_unpack_strs), ("sextant/unpack.pairs", laid_sextant_unpack_pairs)], narrowed := true }
def InclusionHeadersUptoSaid : Prop := inclusionHeadersUptoRow.holds Tryz.pinned (OpenSpec.upto inclusionHeadersSpec)

/-- 'sextantlaw27.InclusionTxns', WHERE WHAT IT READS IS OF BULK AT MOST 1048576: true; the input reads as it did. -/
def inclusionTxnsUptoRow : OpenClaim := { program := "ytpobhbdomldecaagreatdoor", sum := "f2ca82d5a4c8a9b39c3a4c951c683a34295a84b985e1e1c472bd9b054db3f91a", func := "sextant/sextantlaw27.InclusionTxns", spec := "inclusionTxns", inPlace := ["internal/abi.NoEscape", "internal/reflectlite.TypeOf", "internal/reflectlite.ValueOf", "(internal/reflectlite.Value).Type", "(internal/reflectlite.Value).IsNil", "(internal/reflectlite.Value).Elem", "(internal/reflectlite.Value).Set"], unfollowed := true, recurses := true, named := ["sextant/pack.rows", "sextant/unpack.bins", "sextant/unpack.nums", "sextant/unpack.pairs", "sextant/unpack.strs", "errors.errorType"], apart := false, laid := [("sextant/pack.rows", laid_sextant_pack_rows), ("errors.errorType", laid_errors_errorType), ("sextant/unpack.nums", laid_sextant_unpack_nums), ("sextant/unpack.bins", laid_sextant_unpack_bins), ("sextant/unpack.strs", laid_sextant_unpack_strs), ("sextant/unpack.pairs", laid_sextant_unpack_pairs)], narrowed := true }
def InclusionTxnsUptoSaid : Prop := inclusionTxnsUptoRow.holds Tryz.pinned (OpenSpec.upto inclusionTxnsSpec)

/-- 'sextantlaw27.InclusionAll', WHERE WHAT IT READS IS OF BULK AT MOST 1048576: true; the input reads as it did. -/
def inclusionAllUptoRow : OpenClaim := { program := "ytpobhbdomldecaagreatdoor", sum := "f2ca82d5a4c8a9b39c3a4c951c683a34295a84b985e1e1c472bd9b054db3f91a", func := "sextant/sextantlaw27.InclusionAll", spec := "inclusionAll", inPlace := ["internal/abi.NoEscape", "internal/reflectlite.TypeOf", "internal/reflectlite.ValueOf", "(internal/reflectlite.Value).Type", "(internal/reflectlite.Value).IsNil", "(internal/reflectlite.Value).Elem", "(internal/reflectlite.Value).Set"], unfollowed := true, recurses := true, named := ["sextant/pack.rows", "sextant/unpack.bins", "sextant/unpack.nums", "sextant/unpack.pairs", "sextant/unpack.strs", "errors.errorType"], apart := false, laid := [("sextant/pack.rows", laid_sextant_pack_rows), ("errors.errorType", laid_errors_errorType), ("sextant/unpack.nums", laid_sextant_unpack_nums), ("sextant/unpack.bins", laid_sextant_unpack_bins), ("sextant/unpack.strs", laid_sextant_unpack_strs), ("sextant/unpack.pairs", laid_sextant_unpack_pairs)], narrowed := true }
def InclusionAllUptoSaid : Prop := inclusionAllUptoRow.holds Tryz.pinned (OpenSpec.upto inclusionAllSpec)

/-- 'sextantlaw27.InclusionKnown', WHERE WHAT IT READS IS OF BULK AT MOST 1048576: true; the input reads as it did. -/
def inclusionKnownUptoRow : OpenClaim := { program := "ytpobhbdomldecaagreatdoor", sum := "f2ca82d5a4c8a9b39c3a4c951c683a34295a84b985e1e1c472bd9b054db3f91a", func := "sextant/sextantlaw27.InclusionKnown", spec := "inclusionKnown", inPlace := ["internal/abi.NoEscape", "internal/reflectlite.TypeOf", "internal/reflectlite.ValueOf", "(internal/reflectlite.Value).Type", "(internal/reflectlite.Value).IsNil", "(internal/reflectlite.Value).Elem", "(internal/reflectlite.Value).Set"], unfollowed := true, recurses := true, named := ["sextant/pack.rows", "sextant/unpack.bins", "sextant/unpack.nums", "sextant/unpack.pairs", "sextant/unpack.strs", "errors.errorType"], apart := false, laid := [("sextant/pack.rows", laid_sextant_pack_rows), ("errors.errorType", laid_errors_errorType), ("sextant/unpack.nums", laid_sextant_unpack_nums), ("sextant/unpack.bins", laid_sextant_unpack_bins), ("sextant/unpack.strs", laid_sextant_unpack_strs), ("sextant/unpack.pairs", laid_sextant_unpack_pairs)], narrowed := true }
def InclusionKnownUptoSaid : Prop := inclusionKnownUptoRow.holds Tryz.pinned (OpenSpec.upto inclusionKnownSpec)

/-- 'sextantlaw15.PartProves', WHERE WHAT IT READS IS OF BULK AT MOST 1048576: true; the input reads as it did. -/
def partProvesUptoRow : OpenClaim := { program := "ytpobhbdomldecaagreatdoor", sum := "f2ca82d5a4c8a9b39c3a4c951c683a34295a84b985e1e1c472bd9b054db3f91a", func := "sextant/sextantlaw15.PartProves", spec := "partProves", inPlace := ["internal/abi.NoEscape", "internal/bytealg.MakeNoZero", "math/bits.Add64", "internal/reflectlite.TypeOf", "internal/reflectlite.ValueOf", "(internal/reflectlite.Value).Type", "(internal/reflectlite.Value).IsNil", "(internal/reflectlite.Value).Elem", "(internal/reflectlite.Value).Set"], unfollowed := true, recurses := true, named := ["sextant/pack.rows", "sextant/unpack.nums", "sextant/unpack.bins", "sextant/unpack.pairs", "sextant/unpack.strs", "errors.errorType"], apart := false, laid := [("sextant/pack.rows", laid_sextant_pack_rows), ("errors.errorType", laid_errors_errorType), ("sextant/unpack.nums", laid_sextant_unpack_nums), ("sextant/unpack.bins", laid_sextant_unpack_bins), ("sextant/unpack.strs", laid_sextant_unpack_strs), ("sextant/unpack.pairs", laid_sextant_unpack_pairs)], narrowed := true }
def PartProvesUptoSaid : Prop := partProvesUptoRow.holds Tryz.pinned (OpenSpec.upto partProvesSpec)

end Rows
end Go.Proofs.YtpobhbdomldecaaGreatDoor
