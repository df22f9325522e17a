/-
  NARROWER THAN 'FOR EVERY INPUT', by the rows' own cells (each row's printed sentence says how): FnExactMatches: laid · FnExactTxnOK: laid · FnExactDoneOK: laid · FnExactCommandOK: laid · FnExactStoreOK: laid · FnExactEdgesOf: laid · FnExactSerialOrder: laid · FnIntervals: laid · FnBounds: laid · FnExactFilterText: laid.
  DERIVED. THE GIVEN ROWS OF THIS SEAT. 10 by the template 'for every input the law returns true; each argument reads behind the call as it read before'; 0 by the template 'total and deterministic' (their statements: YtgfdeomfociobaaGreatDoorTotals.lean).
  GIVEN WITH THE SEED: the statements are not yours to turn. If you find one false, say at which input.
  Laid BY PROGRAM, IN A SANDBOX (cutbox-rows.mjs): the forced cells as the released guide's own fill.sh prints them over the translation 2dc88bb7834de759… (all of the seat's roots in one cut). By AI agents, Wed Nov 11 2026. No macro, syntax, notation, axiom, sorry.
-/
import Derived.Test.YtgfdeomfociobaaGreatDoorChecked
import GoSem.PinnedTables
import GoSem.Claim
import GoSem.ClaimJoined
import GoSem.ClaimMapViews
import Derived.JoinedTies
import Derived.KernelRfl
namespace Go.Proofs.YtgfdeomfociobaaGreatDoor
/- THE CELL 'sum', in the pinned program and in every row, IS THE sha256 OF THE DUMP (.gsa) THAT YtgfdeomfociobaaGreatDoorProg.lean LOADS. Nothing in Lean hashes anything: it is a label: what it is worth is what the hold of that sum in a sandbox is worth. -/
noncomputable def Tryz.pinned : Pinned := { name := "ytgfdeomfociobaagreatdoor", sum := "2dc88bb7834de759a81afcce5d1d0689b13ed27622e4a7a7e494480b9f102e82", checked := Tryz.checked }
namespace Rows
def none {H : Type} : Left H := { results := [], args := [] }

/- WHAT THE LISTED PACKAGE-LEVEL VARIABLES READ AS WHEN THE CALL BEGINS. Each datum BY PROGRAM (the guide's laid-datum.mjs) off the statement by which the dump's own 'gosem.cut.vars' lays the variable. In a bare row this is a premise. The card (YtgfdeomfociobaaGreatDoorCards.lean) ties it to the program's text. -/
def laid_unicode_utf8_acceptRanges {H : Type} : DataW H := .agg [.agg [.lit (.int .u8 128), .lit (.int .u8 191)], .agg [.lit (.int .u8 160), .lit (.int .u8 191)], .agg [.lit (.int .u8 128), .lit (.int .u8 159)], .agg [.lit (.int .u8 144), .lit (.int .u8 191)], .agg [.lit (.int .u8 128), .lit (.int .u8 143)], .agg [.lit (.int .u8 0), .lit (.int .u8 0)], .agg [.lit (.int .u8 0), .lit (.int .u8 0)], .agg [.lit (.int .u8 0), .lit (.int .u8 0)], .agg [.lit (.int .u8 0), .lit (.int .u8 0)], .agg [.lit (.int .u8 0), .lit (.int .u8 0)], .agg [.lit (.int .u8 0), .lit (.int .u8 0)], .agg [.lit (.int .u8 0), .lit (.int .u8 0)], .agg [.lit (.int .u8 0), .lit (.int .u8 0)], .agg [.lit (.int .u8 0), .lit (.int .u8 0)], .agg [.lit (.int .u8 0), .lit (.int .u8 0)], .agg [.lit (.int .u8 0), .lit (.int .u8 0)]]
/-- One of Go's own tables, pinned by name: the form's constant. -/
def laid_unicode_utf8_first : DataW Unit := Go.Pinned.utf8First
def laid_math_bits_deBruijn32tab {H : Type} : DataW H := .agg [.lit (.int .u8 0), .lit (.int .u8 1), .lit (.int .u8 28), .lit (.int .u8 2), .lit (.int .u8 29), .lit (.int .u8 14), .lit (.int .u8 24), .lit (.int .u8 3), .lit (.int .u8 30), .lit (.int .u8 22), .lit (.int .u8 20), .lit (.int .u8 15), .lit (.int .u8 25), .lit (.int .u8 17), .lit (.int .u8 4), .lit (.int .u8 8), .lit (.int .u8 31), .lit (.int .u8 27), .lit (.int .u8 13), .lit (.int .u8 23), .lit (.int .u8 21), .lit (.int .u8 19), .lit (.int .u8 16), .lit (.int .u8 7), .lit (.int .u8 26), .lit (.int .u8 12), .lit (.int .u8 18), .lit (.int .u8 6), .lit (.int .u8 11), .lit (.int .u8 5), .lit (.int .u8 10), .lit (.int .u8 9)]
def laid_math_bits_deBruijn64tab {H : Type} : DataW H := .agg [.lit (.int .u8 0), .lit (.int .u8 1), .lit (.int .u8 56), .lit (.int .u8 2), .lit (.int .u8 57), .lit (.int .u8 49), .lit (.int .u8 28), .lit (.int .u8 3), .lit (.int .u8 61), .lit (.int .u8 58), .lit (.int .u8 42), .lit (.int .u8 50), .lit (.int .u8 38), .lit (.int .u8 29), .lit (.int .u8 17), .lit (.int .u8 4), .lit (.int .u8 62), .lit (.int .u8 47), .lit (.int .u8 59), .lit (.int .u8 36), .lit (.int .u8 45), .lit (.int .u8 43), .lit (.int .u8 51), .lit (.int .u8 22), .lit (.int .u8 53), .lit (.int .u8 39), .lit (.int .u8 33), .lit (.int .u8 30), .lit (.int .u8 24), .lit (.int .u8 18), .lit (.int .u8 12), .lit (.int .u8 5), .lit (.int .u8 63), .lit (.int .u8 55), .lit (.int .u8 48), .lit (.int .u8 27), .lit (.int .u8 60), .lit (.int .u8 41), .lit (.int .u8 37), .lit (.int .u8 16), .lit (.int .u8 46), .lit (.int .u8 35), .lit (.int .u8 44), .lit (.int .u8 21), .lit (.int .u8 52), .lit (.int .u8 32), .lit (.int .u8 23), .lit (.int .u8 11), .lit (.int .u8 54), .lit (.int .u8 26), .lit (.int .u8 40), .lit (.int .u8 15), .lit (.int .u8 34), .lit (.int .u8 20), .lit (.int .u8 31), .lit (.int .u8 10), .lit (.int .u8 25), .lit (.int .u8 14), .lit (.int .u8 19), .lit (.int .u8 9), .lit (.int .u8 13), .lit (.int .u8 8), .lit (.int .u8 7), .lit (.int .u8 6)]
def laid_internal_strconv_uint64pow10 {H : Type} : DataW H := .agg [.lit (.int .u64 1), .lit (.int .u64 10), .lit (.int .u64 100), .lit (.int .u64 1000), .lit (.int .u64 10000), .lit (.int .u64 100000), .lit (.int .u64 1000000), .lit (.int .u64 10000000), .lit (.int .u64 100000000), .lit (.int .u64 1000000000), .lit (.int .u64 10000000000), .lit (.int .u64 100000000000), .lit (.int .u64 1000000000000), .lit (.int .u64 10000000000000), .lit (.int .u64 100000000000000), .lit (.int .u64 1000000000000000), .lit (.int .u64 10000000000000000), .lit (.int .u64 100000000000000000), .lit (.int .u64 1000000000000000000), .lit (.int .u64 10000000000000000000)]
def laid_loop_example_g00380_impl_termWords {H : Type} : DataW H := .agg [.lit (.string [101, 113]), .lit (.string [110, 101]), .lit (.string [108, 116]), .lit (.string [108, 116, 101]), .lit (.string [103, 116]), .lit (.string [103, 116, 101]), .lit (.string [105, 110]), .lit (.string [101, 120, 105, 115, 116, 115]), .lit (.string [116, 121, 112, 101]), .lit (.string [115, 105, 122, 101])]

/-- 'laws.FnExactMatches': WHATEVER THE INPUT: true; the input reads as it did. -/
def fnExactMatchesSpec : ChangeSpec := { name := "fnExactMatches", fn := fun _ => fun
  | [d1, d2] => { results := [.lit (.bool true)], args := [d1, d2] }
  | _ => none }
def fnExactMatchesRow : OpenClaim := { program := "ytgfdeomfociobaagreatdoor", sum := "2dc88bb7834de759a81afcce5d1d0689b13ed27622e4a7a7e494480b9f102e82", func := "loop.example/g00380/laws.FnExactMatches", spec := "fnExactMatches", inPlace := ["internal/bytealg.CountString", "internal/bytealg.IndexByteString", "internal/bytealg.IndexString", "internal/abi.NoEscape", "internal/bytealg.MakeNoZero", "internal/bytealg.abigen_runtime_cmpstring"], unfollowed := true, recurses := true, named := ["unicode/utf8.first", "unicode/utf8.acceptRanges", "internal/bytealg.MaxLen"], apart := false, laid := [("unicode/utf8.acceptRanges", laid_unicode_utf8_acceptRanges), ("unicode/utf8.first", laid_unicode_utf8_first)] }
def FnExactMatchesSaid : Prop := fnExactMatchesRow.holds Tryz.pinned (OpenSpec.ofChange fnExactMatchesSpec)

/-- ITS FALSE NEIGHBOUR: 'it returns false'. Refute it at one input. -/
def fnExactMatchesWrong : ChangeSpec := { name := "fnExactMatches", fn := fun _ => fun
  | [d1, d2] => { results := [.lit (.bool false)], args := [d1, d2] }
  | _ => none }
def FnExactMatchesWrongFalsely : Prop := fnExactMatchesRow.holds Tryz.pinned (OpenSpec.ofChange fnExactMatchesWrong)

/-- 'laws.FnExactTxnOK': WHATEVER THE INPUT: true; the input reads as it did. -/
def fnExactTxnOKSpec : ChangeSpec := { name := "fnExactTxnOK", fn := fun _ => fun
  | [d] => { results := [.lit (.bool true)], args := [d] }
  | _ => none }
def fnExactTxnOKRow : OpenClaim := { program := "ytgfdeomfociobaagreatdoor", sum := "2dc88bb7834de759a81afcce5d1d0689b13ed27622e4a7a7e494480b9f102e82", func := "loop.example/g00380/laws.FnExactTxnOK", spec := "fnExactTxnOK", inPlace := ["internal/abi.NoEscape", "internal/bytealg.MakeNoZero", "internal/bytealg.abigen_runtime_cmpstring", "internal/bytealg.CountString", "internal/bytealg.IndexByteString", "internal/bytealg.IndexString"], unfollowed := true, recurses := true, named := ["unicode/utf8.first", "unicode/utf8.acceptRanges", "internal/bytealg.MaxLen"], apart := false, laid := [("unicode/utf8.acceptRanges", laid_unicode_utf8_acceptRanges), ("unicode/utf8.first", laid_unicode_utf8_first)] }
def FnExactTxnOKSaid : Prop := fnExactTxnOKRow.holds Tryz.pinned (OpenSpec.ofChange fnExactTxnOKSpec)

/-- ITS FALSE NEIGHBOUR: 'it returns false'. Refute it at one input. -/
def fnExactTxnOKWrong : ChangeSpec := { name := "fnExactTxnOK", fn := fun _ => fun
  | [d] => { results := [.lit (.bool false)], args := [d] }
  | _ => none }
def FnExactTxnOKWrongFalsely : Prop := fnExactTxnOKRow.holds Tryz.pinned (OpenSpec.ofChange fnExactTxnOKWrong)

/-- 'laws.FnExactDoneOK': WHATEVER THE INPUT: true; the input reads as it did. -/
def fnExactDoneOKSpec : ChangeSpec := { name := "fnExactDoneOK", fn := fun _ => fun
  | [d] => { results := [.lit (.bool true)], args := [d] }
  | _ => none }
def fnExactDoneOKRow : OpenClaim := { program := "ytgfdeomfociobaagreatdoor", sum := "2dc88bb7834de759a81afcce5d1d0689b13ed27622e4a7a7e494480b9f102e82", func := "loop.example/g00380/laws.FnExactDoneOK", spec := "fnExactDoneOK", inPlace := ["internal/bytealg.CountString", "internal/bytealg.IndexByteString", "internal/bytealg.IndexString", "internal/abi.NoEscape", "internal/bytealg.MakeNoZero", "internal/bytealg.abigen_runtime_cmpstring"], unfollowed := true, recurses := true, named := ["unicode/utf8.first", "unicode/utf8.acceptRanges", "internal/bytealg.MaxLen"], apart := false, laid := [("unicode/utf8.acceptRanges", laid_unicode_utf8_acceptRanges), ("unicode/utf8.first", laid_unicode_utf8_first)] }
def FnExactDoneOKSaid : Prop := fnExactDoneOKRow.holds Tryz.pinned (OpenSpec.ofChange fnExactDoneOKSpec)

/-- ITS FALSE NEIGHBOUR: 'it returns false'. Refute it at one input. -/
def fnExactDoneOKWrong : ChangeSpec := { name := "fnExactDoneOK", fn := fun _ => fun
  | [d] => { results := [.lit (.bool false)], args := [d] }
  | _ => none }
def FnExactDoneOKWrongFalsely : Prop := fnExactDoneOKRow.holds Tryz.pinned (OpenSpec.ofChange fnExactDoneOKWrong)

/-- 'laws.FnExactCommandOK': WHATEVER THE INPUT: true; the input reads as it did. -/
def fnExactCommandOKSpec : ChangeSpec := { name := "fnExactCommandOK", fn := fun _ => fun
  | [d] => { results := [.lit (.bool true)], args := [d] }
  | _ => none }
def fnExactCommandOKRow : OpenClaim := { program := "ytgfdeomfociobaagreatdoor", sum := "2dc88bb7834de759a81afcce5d1d0689b13ed27622e4a7a7e494480b9f102e82", func := "loop.example/g00380/laws.FnExactCommandOK", spec := "fnExactCommandOK", inPlace := ["internal/abi.NoEscape", "internal/bytealg.MakeNoZero", "internal/bytealg.CountString", "internal/bytealg.IndexByteString", "internal/bytealg.IndexString"], unfollowed := true, recurses := true, named := ["unicode/utf8.first", "unicode/utf8.acceptRanges", "internal/bytealg.MaxLen"], apart := false, laid := [("unicode/utf8.acceptRanges", laid_unicode_utf8_acceptRanges), ("unicode/utf8.first", laid_unicode_utf8_first)] }
def FnExactCommandOKSaid : Prop := fnExactCommandOKRow.holds Tryz.pinned (OpenSpec.ofChange fnExactCommandOKSpec)

/-- ITS FALSE NEIGHBOUR: 'it returns false'. Refute it at one input. -/
def fnExactCommandOKWrong : ChangeSpec := { name := "fnExactCommandOK", fn := fun _ => fun
  | [d] => { results := [.lit (.bool false)], args := [d] }
  | _ => none }
def FnExactCommandOKWrongFalsely : Prop := fnExactCommandOKRow.holds Tryz.pinned (OpenSpec.ofChange fnExactCommandOKWrong)

/-- 'laws.FnExactStoreOK': WHATEVER THE INPUT: true; the input reads as it did. -/
def fnExactStoreOKSpec : ChangeSpec := { name := "fnExactStoreOK", fn := fun _ => fun
  | [d] => { results := [.lit (.bool true)], args := [d] }
  | _ => none }
def fnExactStoreOKRow : OpenClaim := { program := "ytgfdeomfociobaagreatdoor", sum := "2dc88bb7834de759a81afcce5d1d0689b13ed27622e4a7a7e494480b9f102e82", func := "loop.example/g00380/laws.FnExactStoreOK", spec := "fnExactStoreOK", inPlace := ["internal/bytealg.CountString", "internal/bytealg.IndexByteString", "internal/bytealg.IndexString", "internal/abi.NoEscape", "internal/bytealg.MakeNoZero", "internal/bytealg.abigen_runtime_cmpstring"], unfollowed := true, recurses := true, named := ["unicode/utf8.first", "unicode/utf8.acceptRanges", "internal/bytealg.MaxLen"], apart := false, laid := [("unicode/utf8.acceptRanges", laid_unicode_utf8_acceptRanges), ("unicode/utf8.first", laid_unicode_utf8_first)] }
def FnExactStoreOKSaid : Prop := fnExactStoreOKRow.holds Tryz.pinned (OpenSpec.ofChange fnExactStoreOKSpec)

/-- ITS FALSE NEIGHBOUR: 'it returns false'. Refute it at one input. -/
def fnExactStoreOKWrong : ChangeSpec := { name := "fnExactStoreOK", fn := fun _ => fun
  | [d] => { results := [.lit (.bool false)], args := [d] }
  | _ => none }
def FnExactStoreOKWrongFalsely : Prop := fnExactStoreOKRow.holds Tryz.pinned (OpenSpec.ofChange fnExactStoreOKWrong)

/-- 'laws.FnExactEdgesOf': WHATEVER THE INPUT: true; the input reads as it did. -/
def fnExactEdgesOfSpec : ChangeSpec := { name := "fnExactEdgesOf", fn := fun _ => fun
  | [d] => { results := [.lit (.bool true)], args := [d] }
  | _ => none }
def fnExactEdgesOfRow : OpenClaim := { program := "ytgfdeomfociobaagreatdoor", sum := "2dc88bb7834de759a81afcce5d1d0689b13ed27622e4a7a7e494480b9f102e82", func := "loop.example/g00380/laws.FnExactEdgesOf", spec := "fnExactEdgesOf", inPlace := ["internal/bytealg.CountString", "internal/bytealg.IndexByteString", "internal/bytealg.IndexString", "internal/abi.NoEscape", "internal/bytealg.MakeNoZero", "internal/bytealg.abigen_runtime_cmpstring"], unfollowed := true, recurses := true, named := ["unicode/utf8.first", "unicode/utf8.acceptRanges", "internal/bytealg.MaxLen"], apart := false, laid := [("unicode/utf8.acceptRanges", laid_unicode_utf8_acceptRanges), ("unicode/utf8.first", laid_unicode_utf8_first)] }
def FnExactEdgesOfSaid : Prop := fnExactEdgesOfRow.holds Tryz.pinned (OpenSpec.ofChange fnExactEdgesOfSpec)

/-- ITS FALSE NEIGHBOUR: 'it returns false'. Refute it at one input. -/
def fnExactEdgesOfWrong : ChangeSpec := { name := "fnExactEdgesOf", fn := fun _ => fun
  | [d] => { results := [.lit (.bool false)], args := [d] }
  | _ => none }
def FnExactEdgesOfWrongFalsely : Prop := fnExactEdgesOfRow.holds Tryz.pinned (OpenSpec.ofChange fnExactEdgesOfWrong)

/-- 'laws.FnExactSerialOrder': WHATEVER THE INPUT: true; the input reads as it did. -/
def fnExactSerialOrderSpec : ChangeSpec := { name := "fnExactSerialOrder", fn := fun _ => fun
  | [d] => { results := [.lit (.bool true)], args := [d] }
  | _ => none }
def fnExactSerialOrderRow : OpenClaim := { program := "ytgfdeomfociobaagreatdoor", sum := "2dc88bb7834de759a81afcce5d1d0689b13ed27622e4a7a7e494480b9f102e82", func := "loop.example/g00380/laws.FnExactSerialOrder", spec := "fnExactSerialOrder", inPlace := ["internal/bytealg.CountString", "internal/bytealg.IndexByteString", "internal/bytealg.IndexString", "internal/abi.NoEscape", "internal/bytealg.MakeNoZero", "internal/bytealg.abigen_runtime_cmpstring"], unfollowed := true, recurses := true, named := ["unicode/utf8.first", "unicode/utf8.acceptRanges", "internal/bytealg.MaxLen"], apart := false, laid := [("unicode/utf8.acceptRanges", laid_unicode_utf8_acceptRanges), ("unicode/utf8.first", laid_unicode_utf8_first)] }
def FnExactSerialOrderSaid : Prop := fnExactSerialOrderRow.holds Tryz.pinned (OpenSpec.ofChange fnExactSerialOrderSpec)

/-- ITS FALSE NEIGHBOUR: 'it returns false'. Refute it at one input. -/
def fnExactSerialOrderWrong : ChangeSpec := { name := "fnExactSerialOrder", fn := fun _ => fun
  | [d] => { results := [.lit (.bool false)], args := [d] }
  | _ => none }
def FnExactSerialOrderWrongFalsely : Prop := fnExactSerialOrderRow.holds Tryz.pinned (OpenSpec.ofChange fnExactSerialOrderWrong)

/-- 'laws.FnIntervals': WHATEVER THE INPUT: true; the input reads as it did. -/
def fnIntervalsSpec : ChangeSpec := { name := "fnIntervals", fn := fun _ => fun
  | [d1, d2] => { results := [.lit (.bool true)], args := [d1, d2] }
  | _ => none }
def fnIntervalsRow : OpenClaim := { program := "ytgfdeomfociobaagreatdoor", sum := "2dc88bb7834de759a81afcce5d1d0689b13ed27622e4a7a7e494480b9f102e82", func := "loop.example/g00380/laws.FnIntervals", spec := "fnIntervals", inPlace := ["internal/abi.NoEscape", "internal/bytealg.MakeNoZero", "internal/bytealg.abigen_runtime_cmpstring", "slices.overlaps[loop.example/g00380/impl.Field]", "internal/bytealg.CountString", "internal/bytealg.IndexByteString", "internal/bytealg.IndexString"], unfollowed := true, recurses := true, named := ["unicode/utf8.first", "unicode/utf8.acceptRanges", "internal/bytealg.MaxLen"], apart := false, laid := [("unicode/utf8.acceptRanges", laid_unicode_utf8_acceptRanges), ("unicode/utf8.first", laid_unicode_utf8_first)] }
def FnIntervalsSaid : Prop := fnIntervalsRow.holds Tryz.pinned (OpenSpec.ofChange fnIntervalsSpec)

/-- ITS FALSE NEIGHBOUR: 'it returns false'. Refute it at one input. -/
def fnIntervalsWrong : ChangeSpec := { name := "fnIntervals", fn := fun _ => fun
  | [d1, d2] => { results := [.lit (.bool false)], args := [d1, d2] }
  | _ => none }
def FnIntervalsWrongFalsely : Prop := fnIntervalsRow.holds Tryz.pinned (OpenSpec.ofChange fnIntervalsWrong)

/-- 'laws.FnBounds': WHATEVER THE INPUT: true; the input reads as it did. -/
def fnBoundsSpec : ChangeSpec := { name := "fnBounds", fn := fun _ => fun
  | [d1, d2] => { results := [.lit (.bool true)], args := [d1, d2] }
  | _ => none }
def fnBoundsRow : OpenClaim := { program := "ytgfdeomfociobaagreatdoor", sum := "2dc88bb7834de759a81afcce5d1d0689b13ed27622e4a7a7e494480b9f102e82", func := "loop.example/g00380/laws.FnBounds", spec := "fnBounds", inPlace := ["internal/bytealg.CountString", "internal/bytealg.IndexByteString", "internal/bytealg.IndexString", "internal/abi.NoEscape", "internal/bytealg.MakeNoZero", "internal/bytealg.abigen_runtime_cmpstring"], unfollowed := true, recurses := true, named := ["unicode/utf8.first", "unicode/utf8.acceptRanges", "internal/bytealg.MaxLen"], apart := false, laid := [("unicode/utf8.acceptRanges", laid_unicode_utf8_acceptRanges), ("unicode/utf8.first", laid_unicode_utf8_first)] }
def FnBoundsSaid : Prop := fnBoundsRow.holds Tryz.pinned (OpenSpec.ofChange fnBoundsSpec)

/-- ITS FALSE NEIGHBOUR: 'it returns false'. Refute it at one input. -/
def fnBoundsWrong : ChangeSpec := { name := "fnBounds", fn := fun _ => fun
  | [d1, d2] => { results := [.lit (.bool false)], args := [d1, d2] }
  | _ => none }
def FnBoundsWrongFalsely : Prop := fnBoundsRow.holds Tryz.pinned (OpenSpec.ofChange fnBoundsWrong)

/-- 'laws.FnExactFilterText': WHATEVER THE INPUT: true; the input reads as it did. -/
def fnExactFilterTextSpec : ChangeSpec := { name := "fnExactFilterText", vars := ["loop.example/g00380/impl.termWords"], fn := fun _ => fun
  | [d, g1] => { results := [.lit (.bool true)], args := [d], vars := [g1] }
  | _ => none }
def fnExactFilterTextRow : OpenClaim := { program := "ytgfdeomfociobaagreatdoor", sum := "2dc88bb7834de759a81afcce5d1d0689b13ed27622e4a7a7e494480b9f102e82", func := "loop.example/g00380/laws.FnExactFilterText", spec := "fnExactFilterText", inPlace := ["internal/bytealg.CountString", "internal/bytealg.IndexByteString", "internal/bytealg.IndexString", "internal/abi.NoEscape", "internal/bytealg.MakeNoZero"], unfollowed := true, recurses := true, named := ["loop.example/g00380/impl.termWords", "unicode/utf8.first", "unicode/utf8.acceptRanges", "internal/bytealg.MaxLen", "internal/strconv.uint64pow10", "math/bits.deBruijn32tab", "math/bits.deBruijn64tab"], apart := false, laid := [("math/bits.deBruijn32tab", laid_math_bits_deBruijn32tab), ("math/bits.deBruijn64tab", laid_math_bits_deBruijn64tab), ("internal/strconv.uint64pow10", laid_internal_strconv_uint64pow10), ("unicode/utf8.acceptRanges", laid_unicode_utf8_acceptRanges), ("loop.example/g00380/impl.termWords", laid_loop_example_g00380_impl_termWords), ("unicode/utf8.first", laid_unicode_utf8_first)] }
def FnExactFilterTextSaid : Prop := fnExactFilterTextRow.holds Tryz.pinned (OpenSpec.ofChange fnExactFilterTextSpec)

/-- ITS FALSE NEIGHBOUR: 'it returns false'. Refute it at one input. -/
def fnExactFilterTextWrong : ChangeSpec := { name := "fnExactFilterText", vars := ["loop.example/g00380/impl.termWords"], fn := fun _ => fun
  | [d, g1] => { results := [.lit (.bool false)], args := [d], vars := [g1] }
  | _ => none }
def FnExactFilterTextWrongFalsely : Prop := fnExactFilterTextRow.holds Tryz.pinned (OpenSpec.ofChange fnExactFilterTextWrong)

/- THE SECOND FORM. 'bulk': how many values and letters a reading holds, each counted each time it is reached (what is shared counts as often as it is met; a slice's spare places count too). A statement '..UptoSaid' is the law's where the arguments, and the package variables that the reading takes, are together of bulk at most 1048576: NARROWER than '..Said'. Prove '..Said' where nothing that the law and all that it calls make is longer than what came in: it says more and counts as full. Else prove '..UptoSaid'. A law counts once. -/
mutual
def uptoBulk {H : Type} : DataW H → Nat
  | .lit (.string bytes) => bytes.length + 1
  | .lit _ => 1
  | .nil => 1
  | .ptr d => uptoBulk d + 1
  | .slice elems spare => uptoBulkAll elems + uptoBulkAll spare + 1
  | .agg parts => uptoBulkAll parts + 1
  | .iface _ d => uptoBulk d + 1
  | .map entries => uptoBulkEntries entries + 1
  | .held _ => 1
def uptoBulkAll {H : Type} : List (DataW H) → Nat
  | [] => 0
  | d :: r => uptoBulk d + uptoBulkAll r
def uptoBulkEntries {H : Type} : List (Lit × DataW H) → Nat
  | [] => 0
  | x :: r => uptoBulkEntry x + uptoBulkEntries r
def uptoBulkEntry {H : Type} : Lit × DataW H → Nat
  | (.string bytes, d) => bytes.length + uptoBulk d + 1
  | (_, d) => uptoBulk d + 1
 end
def uptoSmall : (H : Type) → List (DataW H) → Bool := fun _ ds => decide (uptoBulkAll ds ≤ 1048576)
def OpenSpec.upto (s : _root_.Go.ChangeSpec) : _root_.Go.OpenSpec := { _root_.Go.OpenSpec.ofChange s with cond := some uptoSmall }

/-- 'laws.FnExactMatches', WHERE WHAT IT READS IS OF BULK AT MOST 1048576: true; the input reads as it did. -/
def fnExactMatchesUptoRow : OpenClaim := { program := "ytgfdeomfociobaagreatdoor", sum := "2dc88bb7834de759a81afcce5d1d0689b13ed27622e4a7a7e494480b9f102e82", func := "loop.example/g00380/laws.FnExactMatches", spec := "fnExactMatches", inPlace := ["internal/bytealg.CountString", "internal/bytealg.IndexByteString", "internal/bytealg.IndexString", "internal/abi.NoEscape", "internal/bytealg.MakeNoZero", "internal/bytealg.abigen_runtime_cmpstring"], unfollowed := true, recurses := true, named := ["unicode/utf8.first", "unicode/utf8.acceptRanges", "internal/bytealg.MaxLen"], apart := false, laid := [("unicode/utf8.acceptRanges", laid_unicode_utf8_acceptRanges), ("unicode/utf8.first", laid_unicode_utf8_first)], narrowed := true }
def FnExactMatchesUptoSaid : Prop := fnExactMatchesUptoRow.holds Tryz.pinned (OpenSpec.upto fnExactMatchesSpec)

/-- 'laws.FnExactTxnOK', WHERE WHAT IT READS IS OF BULK AT MOST 1048576: true; the input reads as it did. -/
def fnExactTxnOKUptoRow : OpenClaim := { program := "ytgfdeomfociobaagreatdoor", sum := "2dc88bb7834de759a81afcce5d1d0689b13ed27622e4a7a7e494480b9f102e82", func := "loop.example/g00380/laws.FnExactTxnOK", spec := "fnExactTxnOK", inPlace := ["internal/abi.NoEscape", "internal/bytealg.MakeNoZero", "internal/bytealg.abigen_runtime_cmpstring", "internal/bytealg.CountString", "internal/bytealg.IndexByteString", "internal/bytealg.IndexString"], unfollowed := true, recurses := true, named := ["unicode/utf8.first", "unicode/utf8.acceptRanges", "internal/bytealg.MaxLen"], apart := false, laid := [("unicode/utf8.acceptRanges", laid_unicode_utf8_acceptRanges), ("unicode/utf8.first", laid_unicode_utf8_first)], narrowed := true }
def FnExactTxnOKUptoSaid : Prop := fnExactTxnOKUptoRow.holds Tryz.pinned (OpenSpec.upto fnExactTxnOKSpec)

/-- 'laws.FnExactDoneOK', WHERE WHAT IT READS IS OF BULK AT MOST 1048576: true; the input reads as it did. -/
def fnExactDoneOKUptoRow : OpenClaim := { program := "ytgfdeomfociobaagreatdoor", sum := "2dc88bb7834de759a81afcce5d1d0689b13ed27622e4a7a7e494480b9f102e82", func := "loop.example/g00380/laws.FnExactDoneOK", spec := "fnExactDoneOK", inPlace := ["internal/bytealg.CountString", "internal/bytealg.IndexByteString", "internal/bytealg.IndexString", "internal/abi.NoEscape", "internal/bytealg.MakeNoZero", "internal/bytealg.abigen_runtime_cmpstring"], unfollowed := true, recurses := true, named := ["unicode/utf8.first", "unicode/utf8.acceptRanges", "internal/bytealg.MaxLen"], apart := false, laid := [("unicode/utf8.acceptRanges", laid_unicode_utf8_acceptRanges), ("unicode/utf8.first", laid_unicode_utf8_first)], narrowed := true }
def FnExactDoneOKUptoSaid : Prop := fnExactDoneOKUptoRow.holds Tryz.pinned (OpenSpec.upto fnExactDoneOKSpec)

/-- 'laws.FnExactCommandOK', WHERE WHAT IT READS IS OF BULK AT MOST 1048576: true; the input reads as it did. -/
def fnExactCommandOKUptoRow : OpenClaim := { program := "ytgfdeomfociobaagreatdoor", sum := "2dc88bb7834de759a81afcce5d1d0689b13ed27622e4a7a7e494480b9f102e82", func := "loop.example/g00380/laws.FnExactCommandOK", spec := "fnExactCommandOK", inPlace := ["internal/abi.NoEscape", "internal/bytealg.MakeNoZero", "internal/bytealg.CountString", "internal/bytealg.IndexByteString", "internal/bytealg.IndexString"], unfollowed := true, recurses := true, named := ["unicode/utf8.first", "unicode/utf8.acceptRanges", "internal/bytealg.MaxLen"], apart := false, laid := [("unicode/utf8.acceptRanges", laid_unicode_utf8_acceptRanges), ("unicode/utf8.first", laid_unicode_utf8_first)], narrowed := true }
def FnExactCommandOKUptoSaid : Prop := fnExactCommandOKUptoRow.holds Tryz.pinned (OpenSpec.upto fnExactCommandOKSpec)

/-- 'laws.FnExactStoreOK', WHERE WHAT IT READS IS OF BULK AT MOST 1048576: true; the input reads as it did. -/
def fnExactStoreOKUptoRow : OpenClaim := { program := "ytgfdeomfociobaagreatdoor", sum := "2dc88bb7834de759a81afcce5d1d0689b13ed27622e4a7a7e494480b9f102e82", func := "loop.example/g00380/laws.FnExactStoreOK", spec := "fnExactStoreOK", inPlace := ["internal/bytealg.CountString", "internal/bytealg.IndexByteString", "internal/bytealg.IndexString", "internal/abi.NoEscape", "internal/bytealg.MakeNoZero", "internal/bytealg.abigen_runtime_cmpstring"], unfollowed := true, recurses := true, named := ["unicode/utf8.first", "unicode/utf8.acceptRanges", "internal/bytealg.MaxLen"], apart := false, laid := [("unicode/utf8.acceptRanges", laid_unicode_utf8_acceptRanges), ("unicode/utf8.first", laid_unicode_utf8_first)], narrowed := true }
def FnExactStoreOKUptoSaid : Prop := fnExactStoreOKUptoRow.holds Tryz.pinned (OpenSpec.upto fnExactStoreOKSpec)

/-- 'laws.FnExactEdgesOf', WHERE WHAT IT READS IS OF BULK AT MOST 1048576: true; the input reads as it did. -/
def fnExactEdgesOfUptoRow : OpenClaim := { program := "ytgfdeomfociobaagreatdoor", sum := "2dc88bb7834de759a81afcce5d1d0689b13ed27622e4a7a7e494480b9f102e82", func := "loop.example/g00380/laws.FnExactEdgesOf", spec := "fnExactEdgesOf", inPlace := ["internal/bytealg.CountString", "internal/bytealg.IndexByteString", "internal/bytealg.IndexString", "internal/abi.NoEscape", "internal/bytealg.MakeNoZero", "internal/bytealg.abigen_runtime_cmpstring"], unfollowed := true, recurses := true, named := ["unicode/utf8.first", "unicode/utf8.acceptRanges", "internal/bytealg.MaxLen"], apart := false, laid := [("unicode/utf8.acceptRanges", laid_unicode_utf8_acceptRanges), ("unicode/utf8.first", laid_unicode_utf8_first)], narrowed := true }
def FnExactEdgesOfUptoSaid : Prop := fnExactEdgesOfUptoRow.holds Tryz.pinned (OpenSpec.upto fnExactEdgesOfSpec)

/-- 'laws.FnExactSerialOrder', WHERE WHAT IT READS IS OF BULK AT MOST 1048576: true; the input reads as it did. -/
def fnExactSerialOrderUptoRow : OpenClaim := { program := "ytgfdeomfociobaagreatdoor", sum := "2dc88bb7834de759a81afcce5d1d0689b13ed27622e4a7a7e494480b9f102e82", func := "loop.example/g00380/laws.FnExactSerialOrder", spec := "fnExactSerialOrder", inPlace := ["internal/bytealg.CountString", "internal/bytealg.IndexByteString", "internal/bytealg.IndexString", "internal/abi.NoEscape", "internal/bytealg.MakeNoZero", "internal/bytealg.abigen_runtime_cmpstring"], unfollowed := true, recurses := true, named := ["unicode/utf8.first", "unicode/utf8.acceptRanges", "internal/bytealg.MaxLen"], apart := false, laid := [("unicode/utf8.acceptRanges", laid_unicode_utf8_acceptRanges), ("unicode/utf8.first", laid_unicode_utf8_first)], narrowed := true }
def FnExactSerialOrderUptoSaid : Prop := fnExactSerialOrderUptoRow.holds Tryz.pinned (OpenSpec.upto fnExactSerialOrderSpec)

/-- 'laws.FnIntervals', WHERE WHAT IT READS IS OF BULK AT MOST 1048576: true; the input reads as it did. -/
def fnIntervalsUptoRow : OpenClaim := { program := "ytgfdeomfociobaagreatdoor", sum := "2dc88bb7834de759a81afcce5d1d0689b13ed27622e4a7a7e494480b9f102e82", func := "loop.example/g00380/laws.FnIntervals", spec := "fnIntervals", inPlace := ["internal/abi.NoEscape", "internal/bytealg.MakeNoZero", "internal/bytealg.abigen_runtime_cmpstring", "slices.overlaps[loop.example/g00380/impl.Field]", "internal/bytealg.CountString", "internal/bytealg.IndexByteString", "internal/bytealg.IndexString"], unfollowed := true, recurses := true, named := ["unicode/utf8.first", "unicode/utf8.acceptRanges", "internal/bytealg.MaxLen"], apart := false, laid := [("unicode/utf8.acceptRanges", laid_unicode_utf8_acceptRanges), ("unicode/utf8.first", laid_unicode_utf8_first)], narrowed := true }
def FnIntervalsUptoSaid : Prop := fnIntervalsUptoRow.holds Tryz.pinned (OpenSpec.upto fnIntervalsSpec)

/-- 'laws.FnBounds', WHERE WHAT IT READS IS OF BULK AT MOST 1048576: true; the input reads as it did. -/
def fnBoundsUptoRow : OpenClaim := { program := "ytgfdeomfociobaagreatdoor", sum := "2dc88bb7834de759a81afcce5d1d0689b13ed27622e4a7a7e494480b9f102e82", func := "loop.example/g00380/laws.FnBounds", spec := "fnBounds", inPlace := ["internal/bytealg.CountString", "internal/bytealg.IndexByteString", "internal/bytealg.IndexString", "internal/abi.NoEscape", "internal/bytealg.MakeNoZero", "internal/bytealg.abigen_runtime_cmpstring"], unfollowed := true, recurses := true, named := ["unicode/utf8.first", "unicode/utf8.acceptRanges", "internal/bytealg.MaxLen"], apart := false, laid := [("unicode/utf8.acceptRanges", laid_unicode_utf8_acceptRanges), ("unicode/utf8.first", laid_unicode_utf8_first)], narrowed := true }
def FnBoundsUptoSaid : Prop := fnBoundsUptoRow.holds Tryz.pinned (OpenSpec.upto fnBoundsSpec)

/-- 'laws.FnExactFilterText', WHERE WHAT IT READS IS OF BULK AT MOST 1048576: true; the input reads as it did. -/
def fnExactFilterTextUptoRow : OpenClaim := { program := "ytgfdeomfociobaagreatdoor", sum := "2dc88bb7834de759a81afcce5d1d0689b13ed27622e4a7a7e494480b9f102e82", func := "loop.example/g00380/laws.FnExactFilterText", spec := "fnExactFilterText", inPlace := ["internal/bytealg.CountString", "internal/bytealg.IndexByteString", "internal/bytealg.IndexString", "internal/abi.NoEscape", "internal/bytealg.MakeNoZero"], unfollowed := true, recurses := true, named := ["loop.example/g00380/impl.termWords", "unicode/utf8.first", "unicode/utf8.acceptRanges", "internal/bytealg.MaxLen", "internal/strconv.uint64pow10", "math/bits.deBruijn32tab", "math/bits.deBruijn64tab"], apart := false, laid := [("math/bits.deBruijn32tab", laid_math_bits_deBruijn32tab), ("math/bits.deBruijn64tab", laid_math_bits_deBruijn64tab), ("internal/strconv.uint64pow10", laid_internal_strconv_uint64pow10), ("unicode/utf8.acceptRanges", laid_unicode_utf8_acceptRanges), ("loop.example/g00380/impl.termWords", laid_loop_example_g00380_impl_termWords), ("unicode/utf8.first", laid_unicode_utf8_first)], narrowed := true }
def FnExactFilterTextUptoSaid : Prop := fnExactFilterTextUptoRow.holds Tryz.pinned (OpenSpec.upto fnExactFilterTextSpec)

end Rows
end Go.Proofs.YtgfdeomfociobaaGreatDoor
