/-
  NARROWER THAN 'FOR EVERY INPUT', by the rows' own cells (each row's printed sentence says how): FnExactFirstPath: laid · FnExactQueryOK: laid · FnExactTermMatches: laid · FnExactCollOK: laid · FnExactVersionsOf: laid · FnExactDocKeys: laid · FnTerms: laid · FnExactLastAt: laid · FnExactFilterInterval: laid · FnExactApplyUpdate: laid.
  DERIVED. THE GIVEN ROWS OF THIS SEAT. 10 by the template 'for every input the law returns true; each argument reads behind the call as it read before'; 0 by the template 'total and deterministic' (their statements: YtjbnpbcihofmgaaGreatDoorTotals.lean).
  GIVEN WITH THE SEED: the statements are not yours to turn. If you find one false, say at which input.
  Laid BY PROGRAM, IN A SANDBOX (cutbox-rows.mjs): the forced cells as the released guide's own fill.sh prints them over the translation b58bdc85a7a7fbb1… (all of the seat's roots in one cut). By AI agents, Wed Nov 11 2026. No macro, syntax, notation, axiom, sorry.
-/
import Derived.Test.YtjbnpbcihofmgaaGreatDoorChecked
import GoSem.PinnedTables
import GoSem.Claim
import GoSem.ClaimJoined
import GoSem.ClaimMapViews
import Derived.JoinedTies
import Derived.KernelRfl
namespace Go.Proofs.YtjbnpbcihofmgaaGreatDoor
/- THE CELL 'sum', in the pinned program and in every row, IS THE sha256 OF THE DUMP (.gsa) THAT YtjbnpbcihofmgaaGreatDoorProg.lean LOADS. Nothing in Lean hashes anything: it is a label: what it is worth is what the hold of that sum in a sandbox is worth. -/
noncomputable def Tryz.pinned : Pinned := { name := "ytjbnpbcihofmgaagreatdoor", sum := "b58bdc85a7a7fbb1bab362a8097124c084984cd0aaca23bcc7226517e6658464", checked := Tryz.checked }
namespace Rows
def none {H : Type} : Left H := { results := [], args := [] }

/- WHAT THE LISTED PACKAGE-LEVEL VARIABLES READ AS WHEN THE CALL BEGINS. Each datum BY PROGRAM (the guide's laid-datum.mjs) off the statement by which the dump's own 'gosem.cut.vars' lays the variable. In a bare row this is a premise. The card (YtjbnpbcihofmgaaGreatDoorCards.lean) ties it to the program's text. -/
def laid_unicode_utf8_acceptRanges {H : Type} : DataW H := .agg [.agg [.lit (.int .u8 128), .lit (.int .u8 191)], .agg [.lit (.int .u8 160), .lit (.int .u8 191)], .agg [.lit (.int .u8 128), .lit (.int .u8 159)], .agg [.lit (.int .u8 144), .lit (.int .u8 191)], .agg [.lit (.int .u8 128), .lit (.int .u8 143)], .agg [.lit (.int .u8 0), .lit (.int .u8 0)], .agg [.lit (.int .u8 0), .lit (.int .u8 0)], .agg [.lit (.int .u8 0), .lit (.int .u8 0)], .agg [.lit (.int .u8 0), .lit (.int .u8 0)], .agg [.lit (.int .u8 0), .lit (.int .u8 0)], .agg [.lit (.int .u8 0), .lit (.int .u8 0)], .agg [.lit (.int .u8 0), .lit (.int .u8 0)], .agg [.lit (.int .u8 0), .lit (.int .u8 0)], .agg [.lit (.int .u8 0), .lit (.int .u8 0)], .agg [.lit (.int .u8 0), .lit (.int .u8 0)], .agg [.lit (.int .u8 0), .lit (.int .u8 0)]]
/-- One of Go's own tables, pinned by name: the form's constant. -/
def laid_unicode_utf8_first : DataW Unit := Go.Pinned.utf8First

/-- 'laws.FnExactFirstPath': WHATEVER THE INPUT: true; the input reads as it did. -/
def fnExactFirstPathSpec : ChangeSpec := { name := "fnExactFirstPath", fn := fun _ => fun
  | [d1, d2] => { results := [.lit (.bool true)], args := [d1, d2] }
  | _ => none }
def fnExactFirstPathRow : OpenClaim := { program := "ytjbnpbcihofmgaagreatdoor", sum := "b58bdc85a7a7fbb1bab362a8097124c084984cd0aaca23bcc7226517e6658464", func := "loop.example/g00380/laws.FnExactFirstPath", spec := "fnExactFirstPath", inPlace := ["internal/abi.NoEscape", "internal/bytealg.MakeNoZero", "internal/bytealg.CountString", "internal/bytealg.IndexByteString", "internal/bytealg.IndexString", "internal/bytealg.abigen_runtime_cmpstring"], unfollowed := true, recurses := true, named := ["unicode/utf8.first", "unicode/utf8.acceptRanges", "internal/bytealg.MaxLen"], apart := false, laid := [("unicode/utf8.acceptRanges", laid_unicode_utf8_acceptRanges), ("unicode/utf8.first", laid_unicode_utf8_first)] }
def FnExactFirstPathSaid : Prop := fnExactFirstPathRow.holds Tryz.pinned (OpenSpec.ofChange fnExactFirstPathSpec)

/-- ITS FALSE NEIGHBOUR: 'it returns false'. Refute it at one input. -/
def fnExactFirstPathWrong : ChangeSpec := { name := "fnExactFirstPath", fn := fun _ => fun
  | [d1, d2] => { results := [.lit (.bool false)], args := [d1, d2] }
  | _ => none }
def FnExactFirstPathWrongFalsely : Prop := fnExactFirstPathRow.holds Tryz.pinned (OpenSpec.ofChange fnExactFirstPathWrong)

/-- 'laws.FnExactQueryOK': WHATEVER THE INPUT: true; the input reads as it did. -/
def fnExactQueryOKSpec : ChangeSpec := { name := "fnExactQueryOK", fn := fun _ => fun
  | [d] => { results := [.lit (.bool true)], args := [d] }
  | _ => none }
def fnExactQueryOKRow : OpenClaim := { program := "ytjbnpbcihofmgaagreatdoor", sum := "b58bdc85a7a7fbb1bab362a8097124c084984cd0aaca23bcc7226517e6658464", func := "loop.example/g00380/laws.FnExactQueryOK", spec := "fnExactQueryOK", inPlace := ["internal/bytealg.CountString", "internal/bytealg.IndexByteString", "internal/bytealg.IndexString", "internal/abi.NoEscape", "internal/bytealg.MakeNoZero"], unfollowed := true, recurses := true, named := ["unicode/utf8.first", "unicode/utf8.acceptRanges", "internal/bytealg.MaxLen"], apart := false, laid := [("unicode/utf8.acceptRanges", laid_unicode_utf8_acceptRanges), ("unicode/utf8.first", laid_unicode_utf8_first)] }
def FnExactQueryOKSaid : Prop := fnExactQueryOKRow.holds Tryz.pinned (OpenSpec.ofChange fnExactQueryOKSpec)

/-- ITS FALSE NEIGHBOUR: 'it returns false'. Refute it at one input. -/
def fnExactQueryOKWrong : ChangeSpec := { name := "fnExactQueryOK", fn := fun _ => fun
  | [d] => { results := [.lit (.bool false)], args := [d] }
  | _ => none }
def FnExactQueryOKWrongFalsely : Prop := fnExactQueryOKRow.holds Tryz.pinned (OpenSpec.ofChange fnExactQueryOKWrong)

/-- 'laws.FnExactTermMatches': WHATEVER THE INPUT: true; the input reads as it did. -/
def fnExactTermMatchesSpec : ChangeSpec := { name := "fnExactTermMatches", fn := fun _ => fun
  | [d1, d2] => { results := [.lit (.bool true)], args := [d1, d2] }
  | _ => none }
def fnExactTermMatchesRow : OpenClaim := { program := "ytjbnpbcihofmgaagreatdoor", sum := "b58bdc85a7a7fbb1bab362a8097124c084984cd0aaca23bcc7226517e6658464", func := "loop.example/g00380/laws.FnExactTermMatches", spec := "fnExactTermMatches", inPlace := ["internal/bytealg.CountString", "internal/bytealg.IndexByteString", "internal/bytealg.IndexString", "internal/abi.NoEscape", "internal/bytealg.MakeNoZero", "internal/bytealg.abigen_runtime_cmpstring"], unfollowed := true, recurses := true, named := ["unicode/utf8.first", "unicode/utf8.acceptRanges", "internal/bytealg.MaxLen"], apart := false, laid := [("unicode/utf8.acceptRanges", laid_unicode_utf8_acceptRanges), ("unicode/utf8.first", laid_unicode_utf8_first)] }
def FnExactTermMatchesSaid : Prop := fnExactTermMatchesRow.holds Tryz.pinned (OpenSpec.ofChange fnExactTermMatchesSpec)

/-- ITS FALSE NEIGHBOUR: 'it returns false'. Refute it at one input. -/
def fnExactTermMatchesWrong : ChangeSpec := { name := "fnExactTermMatches", fn := fun _ => fun
  | [d1, d2] => { results := [.lit (.bool false)], args := [d1, d2] }
  | _ => none }
def FnExactTermMatchesWrongFalsely : Prop := fnExactTermMatchesRow.holds Tryz.pinned (OpenSpec.ofChange fnExactTermMatchesWrong)

/-- 'laws.FnExactCollOK': WHATEVER THE INPUT: true; the input reads as it did. -/
def fnExactCollOKSpec : ChangeSpec := { name := "fnExactCollOK", fn := fun _ => fun
  | [d] => { results := [.lit (.bool true)], args := [d] }
  | _ => none }
def fnExactCollOKRow : OpenClaim := { program := "ytjbnpbcihofmgaagreatdoor", sum := "b58bdc85a7a7fbb1bab362a8097124c084984cd0aaca23bcc7226517e6658464", func := "loop.example/g00380/laws.FnExactCollOK", spec := "fnExactCollOK", inPlace := ["internal/bytealg.CountString", "internal/bytealg.IndexByteString", "internal/bytealg.IndexString", "internal/abi.NoEscape", "internal/bytealg.MakeNoZero", "internal/bytealg.abigen_runtime_cmpstring"], unfollowed := true, recurses := true, named := ["unicode/utf8.first", "unicode/utf8.acceptRanges", "internal/bytealg.MaxLen"], apart := false, laid := [("unicode/utf8.acceptRanges", laid_unicode_utf8_acceptRanges), ("unicode/utf8.first", laid_unicode_utf8_first)] }
def FnExactCollOKSaid : Prop := fnExactCollOKRow.holds Tryz.pinned (OpenSpec.ofChange fnExactCollOKSpec)

/-- ITS FALSE NEIGHBOUR: 'it returns false'. Refute it at one input. -/
def fnExactCollOKWrong : ChangeSpec := { name := "fnExactCollOK", fn := fun _ => fun
  | [d] => { results := [.lit (.bool false)], args := [d] }
  | _ => none }
def FnExactCollOKWrongFalsely : Prop := fnExactCollOKRow.holds Tryz.pinned (OpenSpec.ofChange fnExactCollOKWrong)

/-- 'laws.FnExactVersionsOf': WHATEVER THE INPUT: true; the input reads as it did. -/
def fnExactVersionsOfSpec : ChangeSpec := { name := "fnExactVersionsOf", fn := fun _ => fun
  | [d] => { results := [.lit (.bool true)], args := [d] }
  | _ => none }
def fnExactVersionsOfRow : OpenClaim := { program := "ytjbnpbcihofmgaagreatdoor", sum := "b58bdc85a7a7fbb1bab362a8097124c084984cd0aaca23bcc7226517e6658464", func := "loop.example/g00380/laws.FnExactVersionsOf", spec := "fnExactVersionsOf", inPlace := ["internal/bytealg.CountString", "internal/bytealg.IndexByteString", "internal/bytealg.IndexString", "internal/abi.NoEscape", "internal/bytealg.MakeNoZero", "internal/bytealg.abigen_runtime_cmpstring"], unfollowed := true, recurses := true, named := ["unicode/utf8.first", "unicode/utf8.acceptRanges", "internal/bytealg.MaxLen"], apart := false, laid := [("unicode/utf8.acceptRanges", laid_unicode_utf8_acceptRanges), ("unicode/utf8.first", laid_unicode_utf8_first)] }
def FnExactVersionsOfSaid : Prop := fnExactVersionsOfRow.holds Tryz.pinned (OpenSpec.ofChange fnExactVersionsOfSpec)

/-- ITS FALSE NEIGHBOUR: 'it returns false'. Refute it at one input. -/
def fnExactVersionsOfWrong : ChangeSpec := { name := "fnExactVersionsOf", fn := fun _ => fun
  | [d] => { results := [.lit (.bool false)], args := [d] }
  | _ => none }
def FnExactVersionsOfWrongFalsely : Prop := fnExactVersionsOfRow.holds Tryz.pinned (OpenSpec.ofChange fnExactVersionsOfWrong)

/-- 'laws.FnExactDocKeys': WHATEVER THE INPUT: true; the input reads as it did. -/
def fnExactDocKeysSpec : ChangeSpec := { name := "fnExactDocKeys", fn := fun _ => fun
  | [d1, d2] => { results := [.lit (.bool true)], args := [d1, d2] }
  | _ => none }
def fnExactDocKeysRow : OpenClaim := { program := "ytjbnpbcihofmgaagreatdoor", sum := "b58bdc85a7a7fbb1bab362a8097124c084984cd0aaca23bcc7226517e6658464", func := "loop.example/g00380/laws.FnExactDocKeys", spec := "fnExactDocKeys", inPlace := ["internal/bytealg.CountString", "internal/bytealg.IndexByteString", "internal/bytealg.IndexString", "internal/abi.NoEscape", "internal/bytealg.MakeNoZero", "internal/bytealg.abigen_runtime_cmpstring"], unfollowed := true, recurses := true, named := ["unicode/utf8.first", "unicode/utf8.acceptRanges", "internal/bytealg.MaxLen"], apart := false, laid := [("unicode/utf8.acceptRanges", laid_unicode_utf8_acceptRanges), ("unicode/utf8.first", laid_unicode_utf8_first)] }
def FnExactDocKeysSaid : Prop := fnExactDocKeysRow.holds Tryz.pinned (OpenSpec.ofChange fnExactDocKeysSpec)

/-- ITS FALSE NEIGHBOUR: 'it returns false'. Refute it at one input. -/
def fnExactDocKeysWrong : ChangeSpec := { name := "fnExactDocKeys", fn := fun _ => fun
  | [d1, d2] => { results := [.lit (.bool false)], args := [d1, d2] }
  | _ => none }
def FnExactDocKeysWrongFalsely : Prop := fnExactDocKeysRow.holds Tryz.pinned (OpenSpec.ofChange fnExactDocKeysWrong)

/-- 'laws.FnTerms': WHATEVER THE INPUT: true; the input reads as it did. -/
def fnTermsSpec : ChangeSpec := { name := "fnTerms", fn := fun _ => fun
  | [d1, d2] => { results := [.lit (.bool true)], args := [d1, d2] }
  | _ => none }
def fnTermsRow : OpenClaim := { program := "ytjbnpbcihofmgaagreatdoor", sum := "b58bdc85a7a7fbb1bab362a8097124c084984cd0aaca23bcc7226517e6658464", func := "loop.example/g00380/laws.FnTerms", spec := "fnTerms", inPlace := ["internal/abi.NoEscape", "internal/bytealg.MakeNoZero", "internal/bytealg.CountString", "internal/bytealg.IndexByteString", "internal/bytealg.IndexString", "internal/bytealg.abigen_runtime_cmpstring"], unfollowed := true, recurses := true, named := ["unicode/utf8.first", "unicode/utf8.acceptRanges", "internal/bytealg.MaxLen"], apart := false, laid := [("unicode/utf8.acceptRanges", laid_unicode_utf8_acceptRanges), ("unicode/utf8.first", laid_unicode_utf8_first)] }
def FnTermsSaid : Prop := fnTermsRow.holds Tryz.pinned (OpenSpec.ofChange fnTermsSpec)

/-- ITS FALSE NEIGHBOUR: 'it returns false'. Refute it at one input. -/
def fnTermsWrong : ChangeSpec := { name := "fnTerms", fn := fun _ => fun
  | [d1, d2] => { results := [.lit (.bool false)], args := [d1, d2] }
  | _ => none }
def FnTermsWrongFalsely : Prop := fnTermsRow.holds Tryz.pinned (OpenSpec.ofChange fnTermsWrong)

/-- 'laws.FnExactLastAt': WHATEVER THE INPUT: true; the input reads as it did. -/
def fnExactLastAtSpec : ChangeSpec := { name := "fnExactLastAt", fn := fun _ => fun
  | [d1, d2] => { results := [.lit (.bool true)], args := [d1, d2] }
  | _ => none }
def fnExactLastAtRow : OpenClaim := { program := "ytjbnpbcihofmgaagreatdoor", sum := "b58bdc85a7a7fbb1bab362a8097124c084984cd0aaca23bcc7226517e6658464", func := "loop.example/g00380/laws.FnExactLastAt", spec := "fnExactLastAt", inPlace := ["internal/bytealg.CountString", "internal/bytealg.IndexByteString", "internal/bytealg.IndexString", "internal/abi.NoEscape", "internal/bytealg.MakeNoZero", "internal/bytealg.abigen_runtime_cmpstring"], unfollowed := true, recurses := true, named := ["unicode/utf8.first", "unicode/utf8.acceptRanges", "internal/bytealg.MaxLen"], apart := false, laid := [("unicode/utf8.acceptRanges", laid_unicode_utf8_acceptRanges), ("unicode/utf8.first", laid_unicode_utf8_first)] }
def FnExactLastAtSaid : Prop := fnExactLastAtRow.holds Tryz.pinned (OpenSpec.ofChange fnExactLastAtSpec)

/-- ITS FALSE NEIGHBOUR: 'it returns false'. Refute it at one input. -/
def fnExactLastAtWrong : ChangeSpec := { name := "fnExactLastAt", fn := fun _ => fun
  | [d1, d2] => { results := [.lit (.bool false)], args := [d1, d2] }
  | _ => none }
def FnExactLastAtWrongFalsely : Prop := fnExactLastAtRow.holds Tryz.pinned (OpenSpec.ofChange fnExactLastAtWrong)

/-- 'laws.FnExactFilterInterval': WHATEVER THE INPUT: true; the input reads as it did. -/
def fnExactFilterIntervalSpec : ChangeSpec := { name := "fnExactFilterInterval", fn := fun _ => fun
  | [d1, d2] => { results := [.lit (.bool true)], args := [d1, d2] }
  | _ => none }
def fnExactFilterIntervalRow : OpenClaim := { program := "ytjbnpbcihofmgaagreatdoor", sum := "b58bdc85a7a7fbb1bab362a8097124c084984cd0aaca23bcc7226517e6658464", func := "loop.example/g00380/laws.FnExactFilterInterval", spec := "fnExactFilterInterval", inPlace := ["internal/bytealg.CountString", "internal/bytealg.IndexByteString", "internal/bytealg.IndexString", "internal/abi.NoEscape", "internal/bytealg.MakeNoZero"], unfollowed := true, recurses := true, named := ["unicode/utf8.first", "unicode/utf8.acceptRanges", "internal/bytealg.MaxLen"], apart := false, laid := [("unicode/utf8.acceptRanges", laid_unicode_utf8_acceptRanges), ("unicode/utf8.first", laid_unicode_utf8_first)] }
def FnExactFilterIntervalSaid : Prop := fnExactFilterIntervalRow.holds Tryz.pinned (OpenSpec.ofChange fnExactFilterIntervalSpec)

/-- ITS FALSE NEIGHBOUR: 'it returns false'. Refute it at one input. -/
def fnExactFilterIntervalWrong : ChangeSpec := { name := "fnExactFilterInterval", fn := fun _ => fun
  | [d1, d2] => { results := [.lit (.bool false)], args := [d1, d2] }
  | _ => none }
def FnExactFilterIntervalWrongFalsely : Prop := fnExactFilterIntervalRow.holds Tryz.pinned (OpenSpec.ofChange fnExactFilterIntervalWrong)

/-- 'laws.FnExactApplyUpdate': WHATEVER THE INPUT: true; the input reads as it did. -/
def fnExactApplyUpdateSpec : ChangeSpec := { name := "fnExactApplyUpdate", fn := fun _ => fun
  | [d1, d2] => { results := [.lit (.bool true)], args := [d1, d2] }
  | _ => none }
def fnExactApplyUpdateRow : OpenClaim := { program := "ytjbnpbcihofmgaagreatdoor", sum := "b58bdc85a7a7fbb1bab362a8097124c084984cd0aaca23bcc7226517e6658464", func := "loop.example/g00380/laws.FnExactApplyUpdate", spec := "fnExactApplyUpdate", inPlace := ["internal/abi.NoEscape", "internal/bytealg.MakeNoZero", "internal/bytealg.CountString", "internal/bytealg.IndexByteString", "internal/bytealg.IndexString", "internal/bytealg.abigen_runtime_cmpstring", "slices.overlaps[loop.example/g00380/impl.Field]"], unfollowed := true, recurses := true, named := ["unicode/utf8.first", "unicode/utf8.acceptRanges", "internal/bytealg.MaxLen"], apart := false, laid := [("unicode/utf8.acceptRanges", laid_unicode_utf8_acceptRanges), ("unicode/utf8.first", laid_unicode_utf8_first)] }
def FnExactApplyUpdateSaid : Prop := fnExactApplyUpdateRow.holds Tryz.pinned (OpenSpec.ofChange fnExactApplyUpdateSpec)

/-- ITS FALSE NEIGHBOUR: 'it returns false'. Refute it at one input. -/
def fnExactApplyUpdateWrong : ChangeSpec := { name := "fnExactApplyUpdate", fn := fun _ => fun
  | [d1, d2] => { results := [.lit (.bool false)], args := [d1, d2] }
  | _ => none }
def FnExactApplyUpdateWrongFalsely : Prop := fnExactApplyUpdateRow.holds Tryz.pinned (OpenSpec.ofChange fnExactApplyUpdateWrong)

/- THE SECOND FORM. 'bulk': how many values and letters a reading holds, each counted each time it is reached (what is shared counts as often as it is met; a slice's spare places count too). A statement '..UptoSaid' is the law's where the arguments, and the package variables that the reading takes, are together of bulk at most 1048576: NARROWER than '..Said'. Prove '..Said' where nothing that the law and all that it calls make is longer than what came in: it says more and counts as full. Else prove '..UptoSaid'. A law counts once. -/
mutual
def uptoBulk {H : Type} : DataW H → Nat
  | .lit (.string bytes) => bytes.length + 1
  | .lit _ => 1
  | .nil => 1
  | .ptr d => uptoBulk d + 1
  | .slice elems spare => uptoBulkAll elems + uptoBulkAll spare + 1
  | .agg parts => uptoBulkAll parts + 1
  | .iface _ d => uptoBulk d + 1
  | .map entries => uptoBulkEntries entries + 1
  | .held _ => 1
def uptoBulkAll {H : Type} : List (DataW H) → Nat
  | [] => 0
  | d :: r => uptoBulk d + uptoBulkAll r
def uptoBulkEntries {H : Type} : List (Lit × DataW H) → Nat
  | [] => 0
  | x :: r => uptoBulkEntry x + uptoBulkEntries r
def uptoBulkEntry {H : Type} : Lit × DataW H → Nat
  | (.string bytes, d) => bytes.length + uptoBulk d + 1
  | (_, d) => uptoBulk d + 1
 end
def uptoSmall : (H : Type) → List (DataW H) → Bool := fun _ ds => decide (uptoBulkAll ds ≤ 1048576)
def OpenSpec.upto (s : _root_.Go.ChangeSpec) : _root_.Go.OpenSpec := { _root_.Go.OpenSpec.ofChange s with cond := some uptoSmall }

/-- 'laws.FnExactFirstPath', WHERE WHAT IT READS IS OF BULK AT MOST 1048576: true; the input reads as it did. -/
def fnExactFirstPathUptoRow : OpenClaim := { program := "ytjbnpbcihofmgaagreatdoor", sum := "b58bdc85a7a7fbb1bab362a8097124c084984cd0aaca23bcc7226517e6658464", func := "loop.example/g00380/laws.FnExactFirstPath", spec := "fnExactFirstPath", inPlace := ["internal/abi.NoEscape", "internal/bytealg.MakeNoZero", "internal/bytealg.CountString", "internal/bytealg.IndexByteString", "internal/bytealg.IndexString", "internal/bytealg.abigen_runtime_cmpstring"], unfollowed := true, recurses := true, named := ["unicode/utf8.first", "unicode/utf8.acceptRanges", "internal/bytealg.MaxLen"], apart := false, laid := [("unicode/utf8.acceptRanges", laid_unicode_utf8_acceptRanges), ("unicode/utf8.first", laid_unicode_utf8_first)], narrowed := true }
def FnExactFirstPathUptoSaid : Prop := fnExactFirstPathUptoRow.holds Tryz.pinned (OpenSpec.upto fnExactFirstPathSpec)

/-- 'laws.FnExactQueryOK', WHERE WHAT IT READS IS OF BULK AT MOST 1048576: true; the input reads as it did. -/
def fnExactQueryOKUptoRow : OpenClaim := { program := "ytjbnpbcihofmgaagreatdoor", sum := "b58bdc85a7a7fbb1bab362a8097124c084984cd0aaca23bcc7226517e6658464", func := "loop.example/g00380/laws.FnExactQueryOK", spec := "fnExactQueryOK", inPlace := ["internal/bytealg.CountString", "internal/bytealg.IndexByteString", "internal/bytealg.IndexString", "internal/abi.NoEscape", "internal/bytealg.MakeNoZero"], unfollowed := true, recurses := true, named := ["unicode/utf8.first", "unicode/utf8.acceptRanges", "internal/bytealg.MaxLen"], apart := false, laid := [("unicode/utf8.acceptRanges", laid_unicode_utf8_acceptRanges), ("unicode/utf8.first", laid_unicode_utf8_first)], narrowed := true }
def FnExactQueryOKUptoSaid : Prop := fnExactQueryOKUptoRow.holds Tryz.pinned (OpenSpec.upto fnExactQueryOKSpec)

/-- 'laws.FnExactTermMatches', WHERE WHAT IT READS IS OF BULK AT MOST 1048576: true; the input reads as it did. -/
def fnExactTermMatchesUptoRow : OpenClaim := { program := "ytjbnpbcihofmgaagreatdoor", sum := "b58bdc85a7a7fbb1bab362a8097124c084984cd0aaca23bcc7226517e6658464", func := "loop.example/g00380/laws.FnExactTermMatches", spec := "fnExactTermMatches", inPlace := ["internal/bytealg.CountString", "internal/bytealg.IndexByteString", "internal/bytealg.IndexString", "internal/abi.NoEscape", "internal/bytealg.MakeNoZero", "internal/bytealg.abigen_runtime_cmpstring"], unfollowed := true, recurses := true, named := ["unicode/utf8.first", "unicode/utf8.acceptRanges", "internal/bytealg.MaxLen"], apart := false, laid := [("unicode/utf8.acceptRanges", laid_unicode_utf8_acceptRanges), ("unicode/utf8.first", laid_unicode_utf8_first)], narrowed := true }
def FnExactTermMatchesUptoSaid : Prop := fnExactTermMatchesUptoRow.holds Tryz.pinned (OpenSpec.upto fnExactTermMatchesSpec)

/-- 'laws.FnExactCollOK', WHERE WHAT IT READS IS OF BULK AT MOST 1048576: true; the input reads as it did. -/
def fnExactCollOKUptoRow : OpenClaim := { program := "ytjbnpbcihofmgaagreatdoor", sum := "b58bdc85a7a7fbb1bab362a8097124c084984cd0aaca23bcc7226517e6658464", func := "loop.example/g00380/laws.FnExactCollOK", spec := "fnExactCollOK", inPlace := ["internal/bytealg.CountString", "internal/bytealg.IndexByteString", "internal/bytealg.IndexString", "internal/abi.NoEscape", "internal/bytealg.MakeNoZero", "internal/bytealg.abigen_runtime_cmpstring"], unfollowed := true, recurses := true, named := ["unicode/utf8.first", "unicode/utf8.acceptRanges", "internal/bytealg.MaxLen"], apart := false, laid := [("unicode/utf8.acceptRanges", laid_unicode_utf8_acceptRanges), ("unicode/utf8.first", laid_unicode_utf8_first)], narrowed := true }
def FnExactCollOKUptoSaid : Prop := fnExactCollOKUptoRow.holds Tryz.pinned (OpenSpec.upto fnExactCollOKSpec)

/-- 'laws.FnExactVersionsOf', WHERE WHAT IT READS IS OF BULK AT MOST 1048576: true; the input reads as it did. -/
def fnExactVersionsOfUptoRow : OpenClaim := { program := "ytjbnpbcihofmgaagreatdoor", sum := "b58bdc85a7a7fbb1bab362a8097124c084984cd0aaca23bcc7226517e6658464", func := "loop.example/g00380/laws.FnExactVersionsOf", spec := "fnExactVersionsOf", inPlace := ["internal/bytealg.CountString", "internal/bytealg.IndexByteString", "internal/bytealg.IndexString", "internal/abi.NoEscape", "internal/bytealg.MakeNoZero", "internal/bytealg.abigen_runtime_cmpstring"], unfollowed := true, recurses := true, named := ["unicode/utf8.first", "unicode/utf8.acceptRanges", "internal/bytealg.MaxLen"], apart := false, laid := [("unicode/utf8.acceptRanges", laid_unicode_utf8_acceptRanges), ("unicode/utf8.first", laid_unicode_utf8_first)], narrowed := true }
def FnExactVersionsOfUptoSaid : Prop := fnExactVersionsOfUptoRow.holds Tryz.pinned (OpenSpec.upto fnExactVersionsOfSpec)

/-- 'laws.FnExactDocKeys', WHERE WHAT IT READS IS OF BULK AT MOST 1048576: true; the input reads as it did. -/
def fnExactDocKeysUptoRow : OpenClaim := { program := "ytjbnpbcihofmgaagreatdoor", sum := "b58bdc85a7a7fbb1bab362a8097124c084984cd0aaca23bcc7226517e6658464", func := "loop.example/g00380/laws.FnExactDocKeys", spec := "fnExactDocKeys", inPlace := ["internal/bytealg.CountString", "internal/bytealg.IndexByteString", "internal/bytealg.IndexString", "internal/abi.NoEscape", "internal/bytealg.MakeNoZero", "internal/bytealg.abigen_runtime_cmpstring"], unfollowed := true, recurses := true, named := ["unicode/utf8.first", "unicode/utf8.acceptRanges", "internal/bytealg.MaxLen"], apart := false, laid := [("unicode/utf8.acceptRanges", laid_unicode_utf8_acceptRanges), ("unicode/utf8.first", laid_unicode_utf8_first)], narrowed := true }
def FnExactDocKeysUptoSaid : Prop := fnExactDocKeysUptoRow.holds Tryz.pinned (OpenSpec.upto fnExactDocKeysSpec)

/-- 'laws.FnTerms', WHERE WHAT IT READS IS OF BULK AT MOST 1048576: true; the input reads as it did. -/
def fnTermsUptoRow : OpenClaim := { program := "ytjbnpbcihofmgaagreatdoor", sum := "b58bdc85a7a7fbb1bab362a8097124c084984cd0aaca23bcc7226517e6658464", func := "loop.example/g00380/laws.FnTerms", spec := "fnTerms", inPlace := ["internal/abi.NoEscape", "internal/bytealg.MakeNoZero", "internal/bytealg.CountString", "internal/bytealg.IndexByteString", "internal/bytealg.IndexString", "internal/bytealg.abigen_runtime_cmpstring"], unfollowed := true, recurses := true, named := ["unicode/utf8.first", "unicode/utf8.acceptRanges", "internal/bytealg.MaxLen"], apart := false, laid := [("unicode/utf8.acceptRanges", laid_unicode_utf8_acceptRanges), ("unicode/utf8.first", laid_unicode_utf8_first)], narrowed := true }
def FnTermsUptoSaid : Prop := fnTermsUptoRow.holds Tryz.pinned (OpenSpec.upto fnTermsSpec)

/-- 'laws.FnExactLastAt', WHERE WHAT IT READS IS OF BULK AT MOST 1048576: true; the input reads as it did. -/
def fnExactLastAtUptoRow : OpenClaim := { program := "ytjbnpbcihofmgaagreatdoor", sum := "b58bdc85a7a7fbb1bab362a8097124c084984cd0aaca23bcc7226517e6658464", func := "loop.example/g00380/laws.FnExactLastAt", spec := "fnExactLastAt", inPlace := ["internal/bytealg.CountString", "internal/bytealg.IndexByteString", "internal/bytealg.IndexString", "internal/abi.NoEscape", "internal/bytealg.MakeNoZero", "internal/bytealg.abigen_runtime_cmpstring"], unfollowed := true, recurses := true, named := ["unicode/utf8.first", "unicode/utf8.acceptRanges", "internal/bytealg.MaxLen"], apart := false, laid := [("unicode/utf8.acceptRanges", laid_unicode_utf8_acceptRanges), ("unicode/utf8.first", laid_unicode_utf8_first)], narrowed := true }
def FnExactLastAtUptoSaid : Prop := fnExactLastAtUptoRow.holds Tryz.pinned (OpenSpec.upto fnExactLastAtSpec)

/-- 'laws.FnExactFilterInterval', WHERE WHAT IT READS IS OF BULK AT MOST 1048576: true; the input reads as it did. -/
def fnExactFilterIntervalUptoRow : OpenClaim := { program := "ytjbnpbcihofmgaagreatdoor", sum := "b58bdc85a7a7fbb1bab362a8097124c084984cd0aaca23bcc7226517e6658464", func := "loop.example/g00380/laws.FnExactFilterInterval", spec := "fnExactFilterInterval", inPlace := ["internal/bytealg.CountString", "internal/bytealg.IndexByteString", "internal/bytealg.IndexString", "internal/abi.NoEscape", "internal/bytealg.MakeNoZero"], unfollowed := true, recurses := true, named := ["unicode/utf8.first", "unicode/utf8.acceptRanges", "internal/bytealg.MaxLen"], apart := false, laid := [("unicode/utf8.acceptRanges", laid_unicode_utf8_acceptRanges), ("unicode/utf8.first", laid_unicode_utf8_first)], narrowed := true }
def FnExactFilterIntervalUptoSaid : Prop := fnExactFilterIntervalUptoRow.holds Tryz.pinned (OpenSpec.upto fnExactFilterIntervalSpec)

/-- 'laws.FnExactApplyUpdate', WHERE WHAT IT READS IS OF BULK AT MOST 1048576: true; the input reads as it did. -/
def fnExactApplyUpdateUptoRow : OpenClaim := { program := "ytjbnpbcihofmgaagreatdoor", sum := "b58bdc85a7a7fbb1bab362a8097124c084984cd0aaca23bcc7226517e6658464", func := "loop.example/g00380/laws.FnExactApplyUpdate", spec := "fnExactApplyUpdate", inPlace := ["internal/abi.NoEscape", "internal/bytealg.MakeNoZero", "internal/bytealg.CountString", "internal/bytealg.IndexByteString", "internal/bytealg.IndexString", "internal/bytealg.abigen_runtime_cmpstring", "slices.overlaps[loop.example/g00380/impl.Field]"], unfollowed := true, recurses := true, named := ["unicode/utf8.first", "unicode/utf8.acceptRanges", "internal/bytealg.MaxLen"], apart := false, laid := [("unicode/utf8.acceptRanges", laid_unicode_utf8_acceptRanges), ("unicode/utf8.first", laid_unicode_utf8_first)], narrowed := true }
def FnExactApplyUpdateUptoSaid : Prop := fnExactApplyUpdateUptoRow.holds Tryz.pinned (OpenSpec.upto fnExactApplyUpdateSpec)

end Rows
end Go.Proofs.YtjbnpbcihofmgaaGreatDoor
