/-
  NARROWER THAN 'FOR EVERY INPUT', by the rows' own cells (each row's printed sentence says how): CertShows: laid · CertKnown: laid · WireParts: laid · WireSlots: laid · WireMsgs: laid · WireAgain: laid · WireCerts: laid · WireBack: laid · WireCuts: laid · WireKnown: laid.
  DERIVED. THE GIVEN ROWS OF THIS SEAT. 10 by the template 'for every input the law returns true; each argument reads behind the call as it read before'; 0 by the template 'total and deterministic' (their statements: YtihiaopilnjonaaGreatDoorTotals.lean).
  GIVEN WITH THE SEED: the statements are not yours to turn. If you find one false, say at which input.
  Laid BY PROGRAM, IN A SANDBOX (cutbox-rows.mjs): the forced cells as the released guide's own fill.sh prints them over the translation 5568a9eb2ee5373d… (all of the seat's roots in one cut). By AI agents, Wed Nov 11 2026. No macro, syntax, notation, axiom, sorry.
-/
import Derived.Test.YtihiaopilnjonaaGreatDoorChecked
import GoSem.Claim
import GoSem.ClaimJoined
import GoSem.ClaimMapViews
import Derived.JoinedTies
import Derived.KernelRfl
namespace Go.Proofs.YtihiaopilnjonaaGreatDoor
/- THE CELL 'sum', in the pinned program and in every row, IS THE sha256 OF THE DUMP (.gsa) THAT YtihiaopilnjonaaGreatDoorProg.lean LOADS. Nothing in Lean hashes anything: it is a label: what it is worth is what the hold of that sum in a sandbox is worth. -/
noncomputable def Tryz.pinned : Pinned := { name := "ytihiaopilnjonaagreatdoor", sum := "5568a9eb2ee5373da5c2e54e08720048e518af45585887f7566b36dadd4d6fc7", checked := Tryz.checked }
namespace Rows
def none {H : Type} : Left H := { results := [], args := [] }

/- WHAT THE LISTED PACKAGE-LEVEL VARIABLES READ AS WHEN THE CALL BEGINS. Each datum BY PROGRAM (the guide's laid-datum.mjs) off the statement by which the dump's own 'gosem.cut.vars' lays the variable. In a bare row this is a premise. The card (YtihiaopilnjonaaGreatDoorCards.lean) ties it to the program's text. -/
def laid_sextant_pack_rows {H : Type} : DataW H := .agg [.slice [.agg [.lit (.int .u64 128), .lit (.int .u8 0), .lit (.int .i64 0)], .agg [.lit (.int .u64 256), .lit (.int .u8 204), .lit (.int .i64 1)], .agg [.lit (.int .u64 65536), .lit (.int .u8 205), .lit (.int .i64 2)], .agg [.lit (.int .u64 4294967296), .lit (.int .u8 206), .lit (.int .i64 4)], .agg [.lit (.int .u64 0), .lit (.int .u8 207), .lit (.int .i64 8)]] [], .slice [.agg [.lit (.int .u64 256), .lit (.int .u8 196), .lit (.int .i64 1)], .agg [.lit (.int .u64 65536), .lit (.int .u8 197), .lit (.int .i64 2)]] [], .slice [.agg [.lit (.int .u64 32), .lit (.int .u8 160), .lit (.int .i64 0)], .agg [.lit (.int .u64 256), .lit (.int .u8 217), .lit (.int .i64 1)], .agg [.lit (.int .u64 65536), .lit (.int .u8 218), .lit (.int .i64 2)]] [], .slice [.agg [.lit (.int .u64 16), .lit (.int .u8 144), .lit (.int .i64 0)], .agg [.lit (.int .u64 65536), .lit (.int .u8 220), .lit (.int .i64 2)]] [], .slice [.agg [.lit (.int .u64 16), .lit (.int .u8 128), .lit (.int .i64 0)], .agg [.lit (.int .u64 65536), .lit (.int .u8 222), .lit (.int .i64 2)]] []]
def laid_sextant_unpack_nums {H : Type} : DataW H := .slice [.agg [.lit (.int .u8 0), .lit (.int .u8 127), .lit (.int .i64 0), .lit (.int .u64 0)], .agg [.lit (.int .u8 204), .lit (.int .u8 204), .lit (.int .i64 1), .lit (.int .u64 128)], .agg [.lit (.int .u8 205), .lit (.int .u8 205), .lit (.int .i64 2), .lit (.int .u64 256)], .agg [.lit (.int .u8 206), .lit (.int .u8 206), .lit (.int .i64 4), .lit (.int .u64 65536)], .agg [.lit (.int .u8 207), .lit (.int .u8 207), .lit (.int .i64 8), .lit (.int .u64 4294967296)]] []
def laid_sextant_unpack_bins {H : Type} : DataW H := .slice [.agg [.lit (.int .u8 196), .lit (.int .u8 196), .lit (.int .i64 1), .lit (.int .u64 0)], .agg [.lit (.int .u8 197), .lit (.int .u8 197), .lit (.int .i64 2), .lit (.int .u64 256)]] []
def laid_sextant_unpack_strs {H : Type} : DataW H := .slice [.agg [.lit (.int .u8 160), .lit (.int .u8 191), .lit (.int .i64 0), .lit (.int .u64 0)], .agg [.lit (.int .u8 217), .lit (.int .u8 217), .lit (.int .i64 1), .lit (.int .u64 32)], .agg [.lit (.int .u8 218), .lit (.int .u8 218), .lit (.int .i64 2), .lit (.int .u64 256)]] []
def laid_sextant_unpack_lists {H : Type} : DataW H := .slice [.agg [.lit (.int .u8 144), .lit (.int .u8 159), .lit (.int .i64 0), .lit (.int .u64 0)], .agg [.lit (.int .u8 220), .lit (.int .u8 220), .lit (.int .i64 2), .lit (.int .u64 16)]] []
def laid_sextant_unpack_pairs {H : Type} : DataW H := .slice [.agg [.lit (.int .u8 128), .lit (.int .u8 143), .lit (.int .i64 0), .lit (.int .u64 0)], .agg [.lit (.int .u8 222), .lit (.int .u8 222), .lit (.int .i64 2), .lit (.int .u64 16)]] []
def laid_errors_errorType {H : Type} : DataW H := .iface "internal/reflectlite.rtype" (.agg [.ptr (.lit (.string [101, 114, 114, 111, 114]))])

/-- 'sextantlaw21.CertShows': WHATEVER THE INPUT: true; the input reads as it did. -/
def certShowsSpec : ChangeSpec := { name := "certShows", fn := fun _ => fun
  | [d] => { results := [.lit (.bool true)], args := [d] }
  | _ => none }
def certShowsRow : OpenClaim := { program := "ytihiaopilnjonaagreatdoor", sum := "5568a9eb2ee5373da5c2e54e08720048e518af45585887f7566b36dadd4d6fc7", func := "sextant/sextantlaw21.CertShows", spec := "certShows", inPlace := ["math/bits.Add64"], unfollowed := true, recurses := true, named := ["sextant/pack.rows", "sextant/unpack.nums", "sextant/unpack.lists", "sextant/unpack.bins", "sextant/unpack.pairs", "sextant/unpack.strs"], apart := false, laid := [("sextant/pack.rows", laid_sextant_pack_rows), ("sextant/unpack.nums", laid_sextant_unpack_nums), ("sextant/unpack.bins", laid_sextant_unpack_bins), ("sextant/unpack.strs", laid_sextant_unpack_strs), ("sextant/unpack.lists", laid_sextant_unpack_lists), ("sextant/unpack.pairs", laid_sextant_unpack_pairs)] }
def CertShowsSaid : Prop := certShowsRow.holds Tryz.pinned (OpenSpec.ofChange certShowsSpec)

/-- ITS FALSE NEIGHBOUR: 'it returns false'. Refute it at one input. -/
def certShowsWrong : ChangeSpec := { name := "certShows", fn := fun _ => fun
  | [d] => { results := [.lit (.bool false)], args := [d] }
  | _ => none }
def CertShowsWrongFalsely : Prop := certShowsRow.holds Tryz.pinned (OpenSpec.ofChange certShowsWrong)

/-- 'sextantlaw21.CertKnown': WHATEVER THE INPUT: true; the input reads as it did. -/
def certKnownSpec : ChangeSpec := { name := "certKnown", fn := fun _ => fun
  | [] => { results := [.lit (.bool true)], args := [] }
  | _ => none }
def certKnownRow : OpenClaim := { program := "ytihiaopilnjonaagreatdoor", sum := "5568a9eb2ee5373da5c2e54e08720048e518af45585887f7566b36dadd4d6fc7", func := "sextant/sextantlaw21.CertKnown", spec := "certKnown", inPlace := ["math/bits.Add64"], unfollowed := true, recurses := true, named := ["sextant/pack.rows", "sextant/unpack.nums", "sextant/unpack.lists", "sextant/unpack.bins", "sextant/unpack.pairs", "sextant/unpack.strs"], apart := false, laid := [("sextant/pack.rows", laid_sextant_pack_rows), ("sextant/unpack.nums", laid_sextant_unpack_nums), ("sextant/unpack.bins", laid_sextant_unpack_bins), ("sextant/unpack.strs", laid_sextant_unpack_strs), ("sextant/unpack.lists", laid_sextant_unpack_lists), ("sextant/unpack.pairs", laid_sextant_unpack_pairs)] }
def CertKnownSaid : Prop := certKnownRow.holds Tryz.pinned (OpenSpec.ofChange certKnownSpec)

/-- ITS FALSE NEIGHBOUR: 'it returns false'. Refute it at one input. -/
def certKnownWrong : ChangeSpec := { name := "certKnown", fn := fun _ => fun
  | [] => { results := [.lit (.bool false)], args := [] }
  | _ => none }
def CertKnownWrongFalsely : Prop := certKnownRow.holds Tryz.pinned (OpenSpec.ofChange certKnownWrong)

/-- 'sextantlaw07.WireParts': WHATEVER THE INPUT: true; the input reads as it did. -/
def wirePartsSpec : ChangeSpec := { name := "wireParts", fn := fun _ => fun
  | [d1, d2, d3] => { results := [.lit (.bool true)], args := [d1, d2, d3] }
  | _ => none }
def wirePartsRow : OpenClaim := { program := "ytihiaopilnjonaagreatdoor", sum := "5568a9eb2ee5373da5c2e54e08720048e518af45585887f7566b36dadd4d6fc7", func := "sextant/sextantlaw07.WireParts", spec := "wireParts", inPlace := ["internal/reflectlite.TypeOf", "internal/reflectlite.ValueOf", "(internal/reflectlite.Value).Type", "(internal/reflectlite.Value).IsNil", "(internal/reflectlite.Value).Elem", "(internal/reflectlite.Value).Set", "internal/abi.NoEscape", "internal/bytealg.MakeNoZero"], unfollowed := true, recurses := true, named := ["sextant/pack.rows", "sextant/unpack.nums", "sextant/unpack.bins", "sextant/unpack.pairs", "sextant/unpack.strs", "errors.errorType", "sextant/unpack.lists"], apart := false, laid := [("sextant/pack.rows", laid_sextant_pack_rows), ("errors.errorType", laid_errors_errorType), ("sextant/unpack.nums", laid_sextant_unpack_nums), ("sextant/unpack.bins", laid_sextant_unpack_bins), ("sextant/unpack.strs", laid_sextant_unpack_strs), ("sextant/unpack.lists", laid_sextant_unpack_lists), ("sextant/unpack.pairs", laid_sextant_unpack_pairs)] }
def WirePartsSaid : Prop := wirePartsRow.holds Tryz.pinned (OpenSpec.ofChange wirePartsSpec)

/-- ITS FALSE NEIGHBOUR: 'it returns false'. Refute it at one input. -/
def wirePartsWrong : ChangeSpec := { name := "wireParts", fn := fun _ => fun
  | [d1, d2, d3] => { results := [.lit (.bool false)], args := [d1, d2, d3] }
  | _ => none }
def WirePartsWrongFalsely : Prop := wirePartsRow.holds Tryz.pinned (OpenSpec.ofChange wirePartsWrong)

/-- 'sextantlaw07.WireSlots': WHATEVER THE INPUT: true; the input reads as it did. -/
def wireSlotsSpec : ChangeSpec := { name := "wireSlots", fn := fun _ => fun
  | [d1, d2, d3] => { results := [.lit (.bool true)], args := [d1, d2, d3] }
  | _ => none }
def wireSlotsRow : OpenClaim := { program := "ytihiaopilnjonaagreatdoor", sum := "5568a9eb2ee5373da5c2e54e08720048e518af45585887f7566b36dadd4d6fc7", func := "sextant/sextantlaw07.WireSlots", spec := "wireSlots", inPlace := ["internal/reflectlite.TypeOf", "internal/reflectlite.ValueOf", "(internal/reflectlite.Value).Type", "(internal/reflectlite.Value).IsNil", "(internal/reflectlite.Value).Elem", "(internal/reflectlite.Value).Set", "internal/abi.NoEscape", "internal/bytealg.MakeNoZero"], unfollowed := true, recurses := true, named := ["sextant/pack.rows", "sextant/unpack.nums", "sextant/unpack.lists", "sextant/unpack.bins", "sextant/unpack.pairs", "sextant/unpack.strs", "errors.errorType"], apart := false, laid := [("sextant/pack.rows", laid_sextant_pack_rows), ("errors.errorType", laid_errors_errorType), ("sextant/unpack.nums", laid_sextant_unpack_nums), ("sextant/unpack.bins", laid_sextant_unpack_bins), ("sextant/unpack.strs", laid_sextant_unpack_strs), ("sextant/unpack.lists", laid_sextant_unpack_lists), ("sextant/unpack.pairs", laid_sextant_unpack_pairs)] }
def WireSlotsSaid : Prop := wireSlotsRow.holds Tryz.pinned (OpenSpec.ofChange wireSlotsSpec)

/-- ITS FALSE NEIGHBOUR: 'it returns false'. Refute it at one input. -/
def wireSlotsWrong : ChangeSpec := { name := "wireSlots", fn := fun _ => fun
  | [d1, d2, d3] => { results := [.lit (.bool false)], args := [d1, d2, d3] }
  | _ => none }
def WireSlotsWrongFalsely : Prop := wireSlotsRow.holds Tryz.pinned (OpenSpec.ofChange wireSlotsWrong)

/-- 'sextantlaw07.WireMsgs': WHATEVER THE INPUT: true; the input reads as it did. -/
def wireMsgsSpec : ChangeSpec := { name := "wireMsgs", fn := fun _ => fun
  | [d1, d2, d3] => { results := [.lit (.bool true)], args := [d1, d2, d3] }
  | _ => none }
def wireMsgsRow : OpenClaim := { program := "ytihiaopilnjonaagreatdoor", sum := "5568a9eb2ee5373da5c2e54e08720048e518af45585887f7566b36dadd4d6fc7", func := "sextant/sextantlaw07.WireMsgs", spec := "wireMsgs", inPlace := ["internal/reflectlite.TypeOf", "internal/reflectlite.ValueOf", "(internal/reflectlite.Value).Type", "(internal/reflectlite.Value).IsNil", "(internal/reflectlite.Value).Elem", "(internal/reflectlite.Value).Set", "internal/abi.NoEscape", "internal/bytealg.MakeNoZero"], unfollowed := true, recurses := true, named := ["sextant/pack.rows", "sextant/unpack.nums", "sextant/unpack.bins", "sextant/unpack.pairs", "sextant/unpack.strs", "errors.errorType", "sextant/unpack.lists"], apart := false, laid := [("sextant/pack.rows", laid_sextant_pack_rows), ("errors.errorType", laid_errors_errorType), ("sextant/unpack.nums", laid_sextant_unpack_nums), ("sextant/unpack.bins", laid_sextant_unpack_bins), ("sextant/unpack.strs", laid_sextant_unpack_strs), ("sextant/unpack.lists", laid_sextant_unpack_lists), ("sextant/unpack.pairs", laid_sextant_unpack_pairs)] }
def WireMsgsSaid : Prop := wireMsgsRow.holds Tryz.pinned (OpenSpec.ofChange wireMsgsSpec)

/-- ITS FALSE NEIGHBOUR: 'it returns false'. Refute it at one input. -/
def wireMsgsWrong : ChangeSpec := { name := "wireMsgs", fn := fun _ => fun
  | [d1, d2, d3] => { results := [.lit (.bool false)], args := [d1, d2, d3] }
  | _ => none }
def WireMsgsWrongFalsely : Prop := wireMsgsRow.holds Tryz.pinned (OpenSpec.ofChange wireMsgsWrong)

/-- 'sextantlaw07.WireAgain': WHATEVER THE INPUT: true; the input reads as it did. -/
def wireAgainSpec : ChangeSpec := { name := "wireAgain", fn := fun _ => fun
  | [d1, d2] => { results := [.lit (.bool true)], args := [d1, d2] }
  | _ => none }
def wireAgainRow : OpenClaim := { program := "ytihiaopilnjonaagreatdoor", sum := "5568a9eb2ee5373da5c2e54e08720048e518af45585887f7566b36dadd4d6fc7", func := "sextant/sextantlaw07.WireAgain", spec := "wireAgain", inPlace := ["internal/abi.NoEscape", "internal/bytealg.MakeNoZero", "internal/reflectlite.TypeOf", "internal/reflectlite.ValueOf", "(internal/reflectlite.Value).Type", "(internal/reflectlite.Value).IsNil", "(internal/reflectlite.Value).Elem", "(internal/reflectlite.Value).Set"], unfollowed := true, recurses := true, named := ["sextant/pack.rows", "sextant/unpack.nums", "sextant/unpack.bins", "sextant/unpack.lists", "sextant/unpack.pairs", "sextant/unpack.strs", "errors.errorType"], apart := false, laid := [("sextant/pack.rows", laid_sextant_pack_rows), ("errors.errorType", laid_errors_errorType), ("sextant/unpack.nums", laid_sextant_unpack_nums), ("sextant/unpack.bins", laid_sextant_unpack_bins), ("sextant/unpack.strs", laid_sextant_unpack_strs), ("sextant/unpack.lists", laid_sextant_unpack_lists), ("sextant/unpack.pairs", laid_sextant_unpack_pairs)] }
def WireAgainSaid : Prop := wireAgainRow.holds Tryz.pinned (OpenSpec.ofChange wireAgainSpec)

/-- ITS FALSE NEIGHBOUR: 'it returns false'. Refute it at one input. -/
def wireAgainWrong : ChangeSpec := { name := "wireAgain", fn := fun _ => fun
  | [d1, d2] => { results := [.lit (.bool false)], args := [d1, d2] }
  | _ => none }
def WireAgainWrongFalsely : Prop := wireAgainRow.holds Tryz.pinned (OpenSpec.ofChange wireAgainWrong)

/-- 'sextantlaw07.WireCerts': WHATEVER THE INPUT: true; the input reads as it did. -/
def wireCertsSpec : ChangeSpec := { name := "wireCerts", fn := fun _ => fun
  | [d1, d2, d3] => { results := [.lit (.bool true)], args := [d1, d2, d3] }
  | _ => none }
def wireCertsRow : OpenClaim := { program := "ytihiaopilnjonaagreatdoor", sum := "5568a9eb2ee5373da5c2e54e08720048e518af45585887f7566b36dadd4d6fc7", func := "sextant/sextantlaw07.WireCerts", spec := "wireCerts", inPlace := ["internal/reflectlite.TypeOf", "internal/reflectlite.ValueOf", "(internal/reflectlite.Value).Type", "(internal/reflectlite.Value).IsNil", "(internal/reflectlite.Value).Elem", "(internal/reflectlite.Value).Set", "internal/abi.NoEscape", "internal/bytealg.MakeNoZero"], unfollowed := true, recurses := true, named := ["sextant/pack.rows", "sextant/unpack.lists", "sextant/unpack.bins", "sextant/unpack.nums", "sextant/unpack.pairs", "sextant/unpack.strs", "errors.errorType"], apart := false, laid := [("sextant/pack.rows", laid_sextant_pack_rows), ("errors.errorType", laid_errors_errorType), ("sextant/unpack.nums", laid_sextant_unpack_nums), ("sextant/unpack.bins", laid_sextant_unpack_bins), ("sextant/unpack.strs", laid_sextant_unpack_strs), ("sextant/unpack.lists", laid_sextant_unpack_lists), ("sextant/unpack.pairs", laid_sextant_unpack_pairs)] }
def WireCertsSaid : Prop := wireCertsRow.holds Tryz.pinned (OpenSpec.ofChange wireCertsSpec)

/-- ITS FALSE NEIGHBOUR: 'it returns false'. Refute it at one input. -/
def wireCertsWrong : ChangeSpec := { name := "wireCerts", fn := fun _ => fun
  | [d1, d2, d3] => { results := [.lit (.bool false)], args := [d1, d2, d3] }
  | _ => none }
def WireCertsWrongFalsely : Prop := wireCertsRow.holds Tryz.pinned (OpenSpec.ofChange wireCertsWrong)

/-- 'sextantlaw07.WireBack': WHATEVER THE INPUT: true; the input reads as it did. -/
def wireBackSpec : ChangeSpec := { name := "wireBack", fn := fun _ => fun
  | [d1, d2, d3] => { results := [.lit (.bool true)], args := [d1, d2, d3] }
  | _ => none }
def wireBackRow : OpenClaim := { program := "ytihiaopilnjonaagreatdoor", sum := "5568a9eb2ee5373da5c2e54e08720048e518af45585887f7566b36dadd4d6fc7", func := "sextant/sextantlaw07.WireBack", spec := "wireBack", inPlace := ["internal/abi.NoEscape", "internal/bytealg.MakeNoZero", "internal/reflectlite.TypeOf", "internal/reflectlite.ValueOf", "(internal/reflectlite.Value).Type", "(internal/reflectlite.Value).IsNil", "(internal/reflectlite.Value).Elem", "(internal/reflectlite.Value).Set"], unfollowed := true, recurses := true, named := ["sextant/pack.rows", "sextant/unpack.nums", "sextant/unpack.bins", "sextant/unpack.lists", "sextant/unpack.pairs", "sextant/unpack.strs", "errors.errorType"], apart := false, laid := [("sextant/pack.rows", laid_sextant_pack_rows), ("errors.errorType", laid_errors_errorType), ("sextant/unpack.nums", laid_sextant_unpack_nums), ("sextant/unpack.bins", laid_sextant_unpack_bins), ("sextant/unpack.strs", laid_sextant_unpack_strs), ("sextant/unpack.lists", laid_sextant_unpack_lists), ("sextant/unpack.pairs", laid_sextant_unpack_pairs)] }
def WireBackSaid : Prop := wireBackRow.holds Tryz.pinned (OpenSpec.ofChange wireBackSpec)

/-- ITS FALSE NEIGHBOUR: 'it returns false'. Refute it at one input. -/
def wireBackWrong : ChangeSpec := { name := "wireBack", fn := fun _ => fun
  | [d1, d2, d3] => { results := [.lit (.bool false)], args := [d1, d2, d3] }
  | _ => none }
def WireBackWrongFalsely : Prop := wireBackRow.holds Tryz.pinned (OpenSpec.ofChange wireBackWrong)

/-- 'sextantlaw07.WireCuts': WHATEVER THE INPUT: true; the input reads as it did. -/
def wireCutsSpec : ChangeSpec := { name := "wireCuts", fn := fun _ => fun
  | [d1, d2, d3] => { results := [.lit (.bool true)], args := [d1, d2, d3] }
  | _ => none }
def wireCutsRow : OpenClaim := { program := "ytihiaopilnjonaagreatdoor", sum := "5568a9eb2ee5373da5c2e54e08720048e518af45585887f7566b36dadd4d6fc7", func := "sextant/sextantlaw07.WireCuts", spec := "wireCuts", inPlace := ["internal/abi.NoEscape", "internal/bytealg.MakeNoZero", "internal/reflectlite.TypeOf", "internal/reflectlite.ValueOf", "(internal/reflectlite.Value).Type", "(internal/reflectlite.Value).IsNil", "(internal/reflectlite.Value).Elem", "(internal/reflectlite.Value).Set"], unfollowed := true, recurses := true, named := ["sextant/pack.rows", "sextant/unpack.nums", "sextant/unpack.bins", "sextant/unpack.lists", "sextant/unpack.pairs", "sextant/unpack.strs", "errors.errorType"], apart := false, laid := [("sextant/pack.rows", laid_sextant_pack_rows), ("errors.errorType", laid_errors_errorType), ("sextant/unpack.nums", laid_sextant_unpack_nums), ("sextant/unpack.bins", laid_sextant_unpack_bins), ("sextant/unpack.strs", laid_sextant_unpack_strs), ("sextant/unpack.lists", laid_sextant_unpack_lists), ("sextant/unpack.pairs", laid_sextant_unpack_pairs)] }
def WireCutsSaid : Prop := wireCutsRow.holds Tryz.pinned (OpenSpec.ofChange wireCutsSpec)

/-- ITS FALSE NEIGHBOUR: 'it returns false'. Refute it at one input. -/
def wireCutsWrong : ChangeSpec := { name := "wireCuts", fn := fun _ => fun
  | [d1, d2, d3] => { results := [.lit (.bool false)], args := [d1, d2, d3] }
  | _ => none }
def WireCutsWrongFalsely : Prop := wireCutsRow.holds Tryz.pinned (OpenSpec.ofChange wireCutsWrong)

/-- 'sextantlaw07.WireKnown': WHATEVER THE INPUT: true; the input reads as it did. -/
def wireKnownSpec : ChangeSpec := { name := "wireKnown", fn := fun _ => fun
  | [] => { results := [.lit (.bool true)], args := [] }
  | _ => none }
def wireKnownRow : OpenClaim := { program := "ytihiaopilnjonaagreatdoor", sum := "5568a9eb2ee5373da5c2e54e08720048e518af45585887f7566b36dadd4d6fc7", func := "sextant/sextantlaw07.WireKnown", spec := "wireKnown", inPlace := ["internal/abi.NoEscape", "internal/bytealg.MakeNoZero", "internal/reflectlite.TypeOf", "internal/reflectlite.ValueOf", "(internal/reflectlite.Value).Type", "(internal/reflectlite.Value).IsNil", "(internal/reflectlite.Value).Elem", "(internal/reflectlite.Value).Set"], unfollowed := true, recurses := true, named := ["sextant/pack.rows", "sextant/unpack.nums", "sextant/unpack.lists", "sextant/unpack.bins", "sextant/unpack.pairs", "sextant/unpack.strs", "errors.errorType"], apart := false, laid := [("sextant/pack.rows", laid_sextant_pack_rows), ("errors.errorType", laid_errors_errorType), ("sextant/unpack.nums", laid_sextant_unpack_nums), ("sextant/unpack.bins", laid_sextant_unpack_bins), ("sextant/unpack.strs", laid_sextant_unpack_strs), ("sextant/unpack.lists", laid_sextant_unpack_lists), ("sextant/unpack.pairs", laid_sextant_unpack_pairs)] }
def WireKnownSaid : Prop := wireKnownRow.holds Tryz.pinned (OpenSpec.ofChange wireKnownSpec)

/-- ITS FALSE NEIGHBOUR: 'it returns false'. Refute it at one input. -/
def wireKnownWrong : ChangeSpec := { name := "wireKnown", fn := fun _ => fun
  | [] => { results := [.lit (.bool false)], args := [] }
  | _ => none }
def WireKnownWrongFalsely : Prop := wireKnownRow.holds Tryz.pinned (OpenSpec.ofChange wireKnownWrong)

/- THE SECOND FORM. 'bulk': how many values and letters a reading holds, each counted each time it is reached (what is shared counts as often as it is met; a slice's spare places count too). A statement '..UptoSaid' is the law's where the arguments, and the package variables that the reading takes, are together of bulk at most 1048576: NARROWER than '..Said'. Prove '..Said' where nothing that the law and all that it calls make is longer than what came in: it says more and counts as full. Else prove '..UptoSaid'. A law counts once. -/
mutual
def uptoBulk {H : Type} : DataW H → Nat
  | .lit (.string bytes) => bytes.length + 1
  | .lit _ => 1
  | .nil => 1
  | .ptr d => uptoBulk d + 1
  | .slice elems spare => uptoBulkAll elems + uptoBulkAll spare + 1
  | .agg parts => uptoBulkAll parts + 1
  | .iface _ d => uptoBulk d + 1
  | .map entries => uptoBulkEntries entries + 1
  | .held _ => 1
def uptoBulkAll {H : Type} : List (DataW H) → Nat
  | [] => 0
  | d :: r => uptoBulk d + uptoBulkAll r
def uptoBulkEntries {H : Type} : List (Lit × DataW H) → Nat
  | [] => 0
  | x :: r => uptoBulkEntry x + uptoBulkEntries r
def uptoBulkEntry {H : Type} : Lit × DataW H → Nat
  | (.string bytes, d) => bytes.length + uptoBulk d + 1
  | (_, d) => uptoBulk d + 1
 end
def uptoSmall : (H : Type) → List (DataW H) → Bool := fun _ ds => decide (uptoBulkAll ds ≤ 1048576)
def OpenSpec.upto (s : _root_.Go.ChangeSpec) : _root_.Go.OpenSpec := { _root_.Go.OpenSpec.ofChange s with cond := some uptoSmall }

/-- 'sextantlaw21.CertShows', WHERE WHAT IT READS IS OF BULK AT MOST 1048576: true; the input reads as it did. -/
def certShowsUptoRow : OpenClaim := { program := "ytihiaopilnjonaagreatdoor", sum := "5568a9eb2ee5373da5c2e54e08720048e518af45585887f7566b36dadd4d6fc7", func := "sextant/sextantlaw21.CertShows", spec := "certShows", inPlace := ["math/bits.Add64"], unfollowed := true, recurses := true, named := ["sextant/pack.rows", "sextant/unpack.nums", "sextant/unpack.lists", "sextant/unpack.bins", "sextant/unpack.pairs", "sextant/unpack.strs"], apart := false, laid := [("sextant/pack.rows", laid_sextant_pack_rows), ("sextant/unpack.nums", laid_sextant_unpack_nums), ("sextant/unpack.bins", laid_sextant_unpack_bins), ("sextant/unpack.strs", laid_sextant_unpack_strs), ("sextant/unpack.lists", laid_sextant_unpack_lists), ("sextant/unpack.pairs", laid_sextant_unpack_pairs)], narrowed := true }
def CertShowsUptoSaid : Prop := certShowsUptoRow.holds Tryz.pinned (OpenSpec.upto certShowsSpec)

/-- 'sextantlaw21.CertKnown', WHERE WHAT IT READS IS OF BULK AT MOST 1048576: true; the input reads as it did. -/
def certKnownUptoRow : OpenClaim := { program := "ytihiaopilnjonaagreatdoor", sum := "5568a9eb2ee5373da5c2e54e08720048e518af45585887f7566b36dadd4d6fc7", func := "sextant/sextantlaw21.CertKnown", spec := "certKnown", inPlace := ["math/bits.Add64"], unfollowed := true, recurses := true, named := ["sextant/pack.rows", "sextant/unpack.nums", "sextant/unpack.lists", "sextant/unpack.bins", "sextant/unpack.pairs", "sextant/unpack.strs"], apart := false, laid := [("sextant/pack.rows", laid_sextant_pack_rows), ("sextant/unpack.nums", laid_sextant_unpack_nums), ("sextant/unpack.bins", laid_sextant_unpack_bins), ("sextant/unpack.strs", laid_sextant_unpack_strs), ("sextant/unpack.lists", laid_sextant_unpack_lists), ("sextant/unpack.pairs", laid_sextant_unpack_pairs)], narrowed := true }
def CertKnownUptoSaid : Prop := certKnownUptoRow.holds Tryz.pinned (OpenSpec.upto certKnownSpec)

/-- 'sextantlaw07.WireParts', WHERE WHAT IT READS IS OF BULK AT MOST 1048576: true; the input reads as it did. -/
def wirePartsUptoRow : OpenClaim := { program := "ytihiaopilnjonaagreatdoor", sum := "5568a9eb2ee5373da5c2e54e08720048e518af45585887f7566b36dadd4d6fc7", func := "sextant/sextantlaw07.WireParts", spec := "wireParts", inPlace := ["internal/reflectlite.TypeOf", "internal/reflectlite.ValueOf", "(internal/reflectlite.Value).Type", "(internal/reflectlite.Value).IsNil", "(internal/reflectlite.Value).Elem", "(internal/reflectlite.Value).Set", "internal/abi.NoEscape", "internal/bytealg.MakeNoZero"], unfollowed := true, recurses := true, named := ["sextant/pack.rows", "sextant/unpack.nums", "sextant/unpack.bins", "sextant/unpack.pairs", "sextant/unpack.strs", "errors.errorType", "sextant/unpack.lists"], apart := false, laid := [("sextant/pack.rows", laid_sextant_pack_rows), ("errors.errorType", laid_errors_errorType), ("sextant/unpack.nums", laid_sextant_unpack_nums), ("sextant/unpack.bins", laid_sextant_unpack_bins), ("sextant/unpack.strs", laid_sextant_unpack_strs), ("sextant/unpack.lists", laid_sextant_unpack_lists), ("sextant/unpack.pairs", laid_sextant_unpack_pairs)], narrowed := true }
def WirePartsUptoSaid : Prop := wirePartsUptoRow.holds Tryz.pinned (OpenSpec.upto wirePartsSpec)

/-- 'sextantlaw07.WireSlots', WHERE WHAT IT READS IS OF BULK AT MOST 1048576: true; the input reads as it did. -/
def wireSlotsUptoRow : OpenClaim := { program := "ytihiaopilnjonaagreatdoor", sum := "5568a9eb2ee5373da5c2e54e08720048e518af45585887f7566b36dadd4d6fc7", func := "sextant/sextantlaw07.WireSlots", spec := "wireSlots", inPlace := ["internal/reflectlite.TypeOf", "internal/reflectlite.ValueOf", "(internal/reflectlite.Value).Type", "(internal/reflectlite.Value).IsNil", "(internal/reflectlite.Value).Elem", "(internal/reflectlite.Value).Set", "internal/abi.NoEscape", "internal/bytealg.MakeNoZero"], unfollowed := true, recurses := true, named := ["sextant/pack.rows", "sextant/unpack.nums", "sextant/unpack.lists", "sextant/unpack.bins", "sextant/unpack.pairs", "sextant/unpack.strs", "errors.errorType"], apart := false, laid := [("sextant/pack.rows", laid_sextant_pack_rows), ("errors.errorType", laid_errors_errorType), ("sextant/unpack.nums", laid_sextant_unpack_nums), ("sextant/unpack.bins", laid_sextant_unpack_bins), ("sextant/unpack.strs", laid_sextant_unpack_strs), ("sextant/unpack.lists", laid_sextant_unpack_lists), ("sextant/unpack.pairs", laid_sextant_unpack_pairs)], narrowed := true }
def WireSlotsUptoSaid : Prop := wireSlotsUptoRow.holds Tryz.pinned (OpenSpec.upto wireSlotsSpec)

/-- 'sextantlaw07.WireMsgs', WHERE WHAT IT READS IS OF BULK AT MOST 1048576: true; the input reads as it did. -/
def wireMsgsUptoRow : OpenClaim := { program := "ytihiaopilnjonaagreatdoor", sum := "5568a9eb2ee5373da5c2e54e08720048e518af45585887f7566b36dadd4d6fc7", func := "sextant/sextantlaw07.WireMsgs", spec := "wireMsgs", inPlace := ["internal/reflectlite.TypeOf", "internal/reflectlite.ValueOf", "(internal/reflectlite.Value).Type", "(internal/reflectlite.Value).IsNil", "(internal/reflectlite.Value).Elem", "(internal/reflectlite.Value).Set", "internal/abi.NoEscape", "internal/bytealg.MakeNoZero"], unfollowed := true, recurses := true, named := ["sextant/pack.rows", "sextant/unpack.nums", "sextant/unpack.bins", "sextant/unpack.pairs", "sextant/unpack.strs", "errors.errorType", "sextant/unpack.lists"], apart := false, laid := [("sextant/pack.rows", laid_sextant_pack_rows), ("errors.errorType", laid_errors_errorType), ("sextant/unpack.nums", laid_sextant_unpack_nums), ("sextant/unpack.bins", laid_sextant_unpack_bins), ("sextant/unpack.strs", laid_sextant_unpack_strs), ("sextant/unpack.lists", laid_sextant_unpack_lists), ("sextant/unpack.pairs", laid_sextant_unpack_pairs)], narrowed := true }
def WireMsgsUptoSaid : Prop := wireMsgsUptoRow.holds Tryz.pinned (OpenSpec.upto wireMsgsSpec)

/-- 'sextantlaw07.WireAgain', WHERE WHAT IT READS IS OF BULK AT MOST 1048576: true; the input reads as it did. -/
def wireAgainUptoRow : OpenClaim := { program := "ytihiaopilnjonaagreatdoor", sum := "5568a9eb2ee5373da5c2e54e08720048e518af45585887f7566b36dadd4d6fc7", func := "sextant/sextantlaw07.WireAgain", spec := "wireAgain", inPlace := ["internal/abi.NoEscape", "internal/bytealg.MakeNoZero", "internal/reflectlite.TypeOf", "internal/reflectlite.ValueOf", "(internal/reflectlite.Value).Type", "(internal/reflectlite.Value).IsNil", "(internal/reflectlite.Value).Elem", "(internal/reflectlite.Value).Set"], unfollowed := true, recurses := true, named := ["sextant/pack.rows", "sextant/unpack.nums", "sextant/unpack.bins", "sextant/unpack.lists", "sextant/unpack.pairs", "sextant/unpack.strs", "errors.errorType"], apart := false, laid := [("sextant/pack.rows", laid_sextant_pack_rows), ("errors.errorType", laid_errors_errorType), ("sextant/unpack.nums", laid_sextant_unpack_nums), ("sextant/unpack.bins", laid_sextant_unpack_bins), ("sextant/unpack.strs", laid_sextant_unpack_strs), ("sextant/unpack.lists", laid_sextant_unpack_lists), ("sextant/unpack.pairs", laid_sextant_unpack_pairs)], narrowed := true }
def WireAgainUptoSaid : Prop := wireAgainUptoRow.holds Tryz.pinned (OpenSpec.upto wireAgainSpec)

/-- 'sextantlaw07.WireCerts', WHERE WHAT IT READS IS OF BULK AT MOST 1048576: true; the input reads as it did. -/
def wireCertsUptoRow : OpenClaim := { program := "ytihiaopilnjonaagreatdoor", sum := "5568a9eb2ee5373da5c2e54e08720048e518af45585887f7566b36dadd4d6fc7", func := "sextant/sextantlaw07.WireCerts", spec := "wireCerts", inPlace := ["internal/reflectlite.TypeOf", "internal/reflectlite.ValueOf", "(internal/reflectlite.Value).Type", "(internal/reflectlite.Value).IsNil", "(internal/reflectlite.Value).Elem", "(internal/reflectlite.Value).Set", "internal/abi.NoEscape", "internal/bytealg.MakeNoZero"], unfollowed := true, recurses := true, named := ["sextant/pack.rows", "sextant/unpack.lists", "sextant/unpack.bins", "sextant/unpack.nums", "sextant/unpack.pairs", "sextant/unpack.strs", "errors.errorType"], apart := false, laid := [("sextant/pack.rows", laid_sextant_pack_rows), ("errors.errorType", laid_errors_errorType), ("sextant/unpack.nums", laid_sextant_unpack_nums), ("sextant/unpack.bins", laid_sextant_unpack_bins), ("sextant/unpack.strs", laid_sextant_unpack_strs), ("sextant/unpack.lists", laid_sextant_unpack_lists), ("sextant/unpack.pairs", laid_sextant_unpack_pairs)], narrowed := true }
def WireCertsUptoSaid : Prop := wireCertsUptoRow.holds Tryz.pinned (OpenSpec.upto wireCertsSpec)

/-- 'sextantlaw07.WireBack', WHERE WHAT IT READS IS OF BULK AT MOST 1048576: true; the input reads as it did. -/
def wireBackUptoRow : OpenClaim := { program := "ytihiaopilnjonaagreatdoor", sum := "5568a9eb2ee5373da5c2e54e08720048e518af45585887f7566b36dadd4d6fc7", func := "sextant/sextantlaw07.WireBack", spec := "wireBack", inPlace := ["internal/abi.NoEscape", "internal/bytealg.MakeNoZero", "internal/reflectlite.TypeOf", "internal/reflectlite.ValueOf", "(internal/reflectlite.Value).Type", "(internal/reflectlite.Value).IsNil", "(internal/reflectlite.Value).Elem", "(internal/reflectlite.Value).Set"], unfollowed := true, recurses := true, named := ["sextant/pack.rows", "sextant/unpack.nums", "sextant/unpack.bins", "sextant/unpack.lists", "sextant/unpack.pairs", "sextant/unpack.strs", "errors.errorType"], apart := false, laid := [("sextant/pack.rows", laid_sextant_pack_rows), ("errors.errorType", laid_errors_errorType), ("sextant/unpack.nums", laid_sextant_unpack_nums), ("sextant/unpack.bins", laid_sextant_unpack_bins), ("sextant/unpack.strs", laid_sextant_unpack_strs), ("sextant/unpack.lists", laid_sextant_unpack_lists), ("sextant/unpack.pairs", laid_sextant_unpack_pairs)], narrowed := true }
def WireBackUptoSaid : Prop := wireBackUptoRow.holds Tryz.pinned (OpenSpec.upto wireBackSpec)

/-- 'sextantlaw07.WireCuts', WHERE WHAT IT READS IS OF BULK AT MOST 1048576: true; the input reads as it did. -/
def wireCutsUptoRow : OpenClaim := { program := "ytihiaopilnjonaagreatdoor", sum := "5568a9eb2ee5373da5c2e54e08720048e518af45585887f7566b36dadd4d6fc7", func := "sextant/sextantlaw07.WireCuts", spec := "wireCuts", inPlace := ["internal/abi.NoEscape", "internal/bytealg.MakeNoZero", "internal/reflectlite.TypeOf", "internal/reflectlite.ValueOf", "(internal/reflectlite.Value).Type", "(internal/reflectlite.Value).IsNil", "(internal/reflectlite.Value).Elem", "(internal/reflectlite.Value).Set"], unfollowed := true, recurses := true, named := ["sextant/pack.rows", "sextant/unpack.nums", "sextant/unpack.bins", "sextant/unpack.lists", "sextant/unpack.pairs", "sextant/unpack.strs", "errors.errorType"], apart := false, laid := [("sextant/pack.rows", laid_sextant_pack_rows), ("errors.errorType", laid_errors_errorType), ("sextant/unpack.nums", laid_sextant_unpack_nums), ("sextant/unpack.bins", laid_sextant_unpack_bins), ("sextant/unpack.strs", laid_sextant_unpack_strs), ("sextant/unpack.lists", laid_sextant_unpack_lists), ("sextant/unpack.pairs", laid_sextant_unpack_pairs)], narrowed := true }
def WireCutsUptoSaid : Prop := wireCutsUptoRow.holds Tryz.pinned (OpenSpec.upto wireCutsSpec)

/-- 'sextantlaw07.WireKnown', WHERE WHAT IT READS IS OF BULK AT MOST 1048576: true; the input reads as it did. -/
def wireKnownUptoRow : OpenClaim := { program := "ytihiaopilnjonaagreatdoor", sum := "5568a9eb2ee5373da5c2e54e08720048e518af45585887f7566b36dadd4d6fc7", func := "sextant/sextantlaw07.WireKnown", spec := "wireKnown", inPlace := ["internal/abi.NoEscape", "internal/bytealg.MakeNoZero", "internal/reflectlite.TypeOf", "internal/reflectlite.ValueOf", "(internal/reflectlite.Value).Type", "(internal/reflectlite.Value).IsNil", "(internal/reflectlite.Value).Elem", "(internal/reflectlite.Value).Set"], unfollowed := true, recurses := true, named := ["sextant/pack.rows", "sextant/unpack.nums", "sextant/unpack.lists", "sextant/unpack.bins", "sextant/unpack.pairs", "sextant/unpack.strs", "errors.errorType"], apart := false, laid := [("sextant/pack.rows", laid_sextant_pack_rows), ("errors.errorType", laid_errors_errorType), ("sextant/unpack.nums", laid_sextant_unpack_nums), ("sextant/unpack.bins", laid_sextant_unpack_bins), ("sextant/unpack.strs", laid_sextant_unpack_strs), ("sextant/unpack.lists", laid_sextant_unpack_lists), ("sextant/unpack.pairs", laid_sextant_unpack_pairs)], narrowed := true }
def WireKnownUptoSaid : Prop := wireKnownUptoRow.holds Tryz.pinned (OpenSpec.upto wireKnownSpec)

end Rows
end Go.Proofs.YtihiaopilnjonaaGreatDoor
