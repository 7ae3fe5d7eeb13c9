/-
  NARROWER THAN 'FOR EVERY INPUT', by the rows' own cells (each row's printed sentence says how): StrcmdSets: laid · StrcmdCounts: laid · StrcmdBits: laid · KeycmdNames: laid · KeycmdBack: laid · KeycmdDeadlines: laid · KeycmdWalk: laid · KeycmdRuns: laid · KeycmdQuiet: laid · StrcmdNames: laid · StrcmdMany: laid · StrcmdRefused: laid.
  DERIVED. THE GIVEN ROWS OF THIS SEAT. 12 by the template 'for every input the law returns true; each argument reads behind the call as it read before'; 0 by the template 'total and deterministic' (their statements: YthojmgjgmbnopaaGreatDoorTotals.lean).
  GIVEN WITH THE SEED: the statements are not yours to turn. If you find one false, say at which input.
  Laid BY PROGRAM, IN A SANDBOX (cutbox-rows.mjs): the forced cells as the released guide's own fill.sh prints them over the translation a5bc588fa511985d… (all of the seat's roots in one cut). By AI agents, Wed Nov 11 2026. No macro, syntax, notation, axiom, sorry.
-/
import Derived.Test.YthojmgjgmbnopaaGreatDoorChecked
import GoSem.Claim
import GoSem.ClaimJoined
import GoSem.ClaimMapViews
import Derived.JoinedTies
import Derived.KernelRfl
namespace Go.Proofs.YthojmgjgmbnopaaGreatDoor
/- THE CELL 'sum', in the pinned program and in every row, IS THE sha256 OF THE DUMP (.gsa) THAT YthojmgjgmbnopaaGreatDoorProg.lean LOADS. Nothing in Lean hashes anything: it is a label: what it is worth is what the hold of that sum in a sandbox is worth. -/
noncomputable def Tryz.pinned : Pinned := { name := "ythojmgjgmbnopaagreatdoor", sum := "a5bc588fa511985dd90df9aa64a846f1059dba0d4d1e26506f159eba470f768d", checked := Tryz.checked }
namespace Rows
def none {H : Type} : Left H := { results := [], args := [] }

/- WHAT THE LISTED PACKAGE-LEVEL VARIABLES READ AS WHEN THE CALL BEGINS. Each datum BY PROGRAM (the guide's laid-datum.mjs) off the statement by which the dump's own 'gosem.cut.vars' lays the variable. In a bare row this is a premise. The card (YthojmgjgmbnopaaGreatDoorCards.lean) ties it to the program's text. -/
def laid_math_bits_deBruijn32tab {H : Type} : DataW H := .agg [.lit (.int .u8 0), .lit (.int .u8 1), .lit (.int .u8 28), .lit (.int .u8 2), .lit (.int .u8 29), .lit (.int .u8 14), .lit (.int .u8 24), .lit (.int .u8 3), .lit (.int .u8 30), .lit (.int .u8 22), .lit (.int .u8 20), .lit (.int .u8 15), .lit (.int .u8 25), .lit (.int .u8 17), .lit (.int .u8 4), .lit (.int .u8 8), .lit (.int .u8 31), .lit (.int .u8 27), .lit (.int .u8 13), .lit (.int .u8 23), .lit (.int .u8 21), .lit (.int .u8 19), .lit (.int .u8 16), .lit (.int .u8 7), .lit (.int .u8 26), .lit (.int .u8 12), .lit (.int .u8 18), .lit (.int .u8 6), .lit (.int .u8 11), .lit (.int .u8 5), .lit (.int .u8 10), .lit (.int .u8 9)]
def laid_math_bits_deBruijn64tab {H : Type} : DataW H := .agg [.lit (.int .u8 0), .lit (.int .u8 1), .lit (.int .u8 56), .lit (.int .u8 2), .lit (.int .u8 57), .lit (.int .u8 49), .lit (.int .u8 28), .lit (.int .u8 3), .lit (.int .u8 61), .lit (.int .u8 58), .lit (.int .u8 42), .lit (.int .u8 50), .lit (.int .u8 38), .lit (.int .u8 29), .lit (.int .u8 17), .lit (.int .u8 4), .lit (.int .u8 62), .lit (.int .u8 47), .lit (.int .u8 59), .lit (.int .u8 36), .lit (.int .u8 45), .lit (.int .u8 43), .lit (.int .u8 51), .lit (.int .u8 22), .lit (.int .u8 53), .lit (.int .u8 39), .lit (.int .u8 33), .lit (.int .u8 30), .lit (.int .u8 24), .lit (.int .u8 18), .lit (.int .u8 12), .lit (.int .u8 5), .lit (.int .u8 63), .lit (.int .u8 55), .lit (.int .u8 48), .lit (.int .u8 27), .lit (.int .u8 60), .lit (.int .u8 41), .lit (.int .u8 37), .lit (.int .u8 16), .lit (.int .u8 46), .lit (.int .u8 35), .lit (.int .u8 44), .lit (.int .u8 21), .lit (.int .u8 52), .lit (.int .u8 32), .lit (.int .u8 23), .lit (.int .u8 11), .lit (.int .u8 54), .lit (.int .u8 26), .lit (.int .u8 40), .lit (.int .u8 15), .lit (.int .u8 34), .lit (.int .u8 20), .lit (.int .u8 31), .lit (.int .u8 10), .lit (.int .u8 25), .lit (.int .u8 14), .lit (.int .u8 19), .lit (.int .u8 9), .lit (.int .u8 13), .lit (.int .u8 8), .lit (.int .u8 7), .lit (.int .u8 6)]
def laid_internal_strconv_uint64pow10 {H : Type} : DataW H := .agg [.lit (.int .u64 1), .lit (.int .u64 10), .lit (.int .u64 100), .lit (.int .u64 1000), .lit (.int .u64 10000), .lit (.int .u64 100000), .lit (.int .u64 1000000), .lit (.int .u64 10000000), .lit (.int .u64 100000000), .lit (.int .u64 1000000000), .lit (.int .u64 10000000000), .lit (.int .u64 100000000000), .lit (.int .u64 1000000000000), .lit (.int .u64 10000000000000), .lit (.int .u64 100000000000000), .lit (.int .u64 1000000000000000), .lit (.int .u64 10000000000000000), .lit (.int .u64 100000000000000000), .lit (.int .u64 1000000000000000000), .lit (.int .u64 10000000000000000000)]
def laid_strconv_ErrRange {H : Type} : DataW H := .iface "*errors.errorString" (.ptr (.agg [.lit (.string [118, 97, 108, 117, 101, 32, 111, 117, 116, 32, 111, 102, 32, 114, 97, 110, 103, 101])]))
def laid_strconv_ErrSyntax {H : Type} : DataW H := .iface "*errors.errorString" (.ptr (.agg [.lit (.string [105, 110, 118, 97, 108, 105, 100, 32, 115, 121, 110, 116, 97, 120])]))

/-- 'covenantlaw17.StrcmdSets': WHATEVER THE INPUT: true; the input reads as it did. -/
def strcmdSetsSpec : ChangeSpec := { name := "strcmdSets", fn := fun _ => fun
  | [d1, d2, d3] => { results := [.lit (.bool true)], args := [d1, d2, d3] }
  | _ => none }
def strcmdSetsRow : OpenClaim := { program := "ythojmgjgmbnopaagreatdoor", sum := "a5bc588fa511985dd90df9aa64a846f1059dba0d4d1e26506f159eba470f768d", func := "covenant/covenantlaw17.StrcmdSets", spec := "strcmdSets", inPlace := ["slices.overlaps[covenant/due.entry[string]]", "internal/bytealg.abigen_runtime_cmpstring"], unfollowed := true, recurses := true, named := ["strconv.ErrSyntax", "strconv.ErrRange", "internal/strconv.uint64pow10", "math/bits.deBruijn32tab", "math/bits.deBruijn64tab"], apart := false, laid := [("math/bits.deBruijn32tab", laid_math_bits_deBruijn32tab), ("math/bits.deBruijn64tab", laid_math_bits_deBruijn64tab), ("internal/strconv.uint64pow10", laid_internal_strconv_uint64pow10), ("strconv.ErrRange", laid_strconv_ErrRange), ("strconv.ErrSyntax", laid_strconv_ErrSyntax)] }
def StrcmdSetsSaid : Prop := strcmdSetsRow.holds Tryz.pinned (OpenSpec.ofChange strcmdSetsSpec)

/-- ITS FALSE NEIGHBOUR: 'it returns false'. Refute it at one input. -/
def strcmdSetsWrong : ChangeSpec := { name := "strcmdSets", fn := fun _ => fun
  | [d1, d2, d3] => { results := [.lit (.bool false)], args := [d1, d2, d3] }
  | _ => none }
def StrcmdSetsWrongFalsely : Prop := strcmdSetsRow.holds Tryz.pinned (OpenSpec.ofChange strcmdSetsWrong)

/-- 'covenantlaw17.StrcmdCounts': WHATEVER THE INPUT: true; the input reads as it did. -/
def strcmdCountsSpec : ChangeSpec := { name := "strcmdCounts", fn := fun _ => fun
  | [d1, d2] => { results := [.lit (.bool true)], args := [d1, d2] }
  | _ => none }
def strcmdCountsRow : OpenClaim := { program := "ythojmgjgmbnopaagreatdoor", sum := "a5bc588fa511985dd90df9aa64a846f1059dba0d4d1e26506f159eba470f768d", func := "covenant/covenantlaw17.StrcmdCounts", spec := "strcmdCounts", inPlace := ["slices.overlaps[covenant/due.entry[string]]", "internal/bytealg.abigen_runtime_cmpstring"], unfollowed := true, recurses := true, named := ["strconv.ErrSyntax", "strconv.ErrRange", "internal/strconv.uint64pow10", "math/bits.deBruijn32tab", "math/bits.deBruijn64tab"], apart := false, laid := [("math/bits.deBruijn32tab", laid_math_bits_deBruijn32tab), ("math/bits.deBruijn64tab", laid_math_bits_deBruijn64tab), ("internal/strconv.uint64pow10", laid_internal_strconv_uint64pow10), ("strconv.ErrRange", laid_strconv_ErrRange), ("strconv.ErrSyntax", laid_strconv_ErrSyntax)] }
def StrcmdCountsSaid : Prop := strcmdCountsRow.holds Tryz.pinned (OpenSpec.ofChange strcmdCountsSpec)

/-- ITS FALSE NEIGHBOUR: 'it returns false'. Refute it at one input. -/
def strcmdCountsWrong : ChangeSpec := { name := "strcmdCounts", fn := fun _ => fun
  | [d1, d2] => { results := [.lit (.bool false)], args := [d1, d2] }
  | _ => none }
def StrcmdCountsWrongFalsely : Prop := strcmdCountsRow.holds Tryz.pinned (OpenSpec.ofChange strcmdCountsWrong)

/-- 'covenantlaw17.StrcmdBits': WHATEVER THE INPUT: true; the input reads as it did. -/
def strcmdBitsSpec : ChangeSpec := { name := "strcmdBits", fn := fun _ => fun
  | [d] => { results := [.lit (.bool true)], args := [d] }
  | _ => none }
def strcmdBitsRow : OpenClaim := { program := "ythojmgjgmbnopaagreatdoor", sum := "a5bc588fa511985dd90df9aa64a846f1059dba0d4d1e26506f159eba470f768d", func := "covenant/covenantlaw17.StrcmdBits", spec := "strcmdBits", inPlace := ["slices.overlaps[covenant/due.entry[string]]", "internal/bytealg.abigen_runtime_cmpstring"], unfollowed := true, recurses := true, named := ["strconv.ErrSyntax", "strconv.ErrRange", "internal/strconv.uint64pow10", "math/bits.deBruijn32tab", "math/bits.deBruijn64tab"], apart := false, laid := [("math/bits.deBruijn32tab", laid_math_bits_deBruijn32tab), ("math/bits.deBruijn64tab", laid_math_bits_deBruijn64tab), ("internal/strconv.uint64pow10", laid_internal_strconv_uint64pow10), ("strconv.ErrRange", laid_strconv_ErrRange), ("strconv.ErrSyntax", laid_strconv_ErrSyntax)] }
def StrcmdBitsSaid : Prop := strcmdBitsRow.holds Tryz.pinned (OpenSpec.ofChange strcmdBitsSpec)

/-- ITS FALSE NEIGHBOUR: 'it returns false'. Refute it at one input. -/
def strcmdBitsWrong : ChangeSpec := { name := "strcmdBits", fn := fun _ => fun
  | [d] => { results := [.lit (.bool false)], args := [d] }
  | _ => none }
def StrcmdBitsWrongFalsely : Prop := strcmdBitsRow.holds Tryz.pinned (OpenSpec.ofChange strcmdBitsWrong)

/-- 'covenantlaw18.KeycmdNames': WHATEVER THE INPUT: true; the input reads as it did. -/
def keycmdNamesSpec : ChangeSpec := { name := "keycmdNames", fn := fun _ => fun
  | [d1, d2] => { results := [.lit (.bool true)], args := [d1, d2] }
  | _ => none }
def keycmdNamesRow : OpenClaim := { program := "ythojmgjgmbnopaagreatdoor", sum := "a5bc588fa511985dd90df9aa64a846f1059dba0d4d1e26506f159eba470f768d", func := "covenant/covenantlaw18.KeycmdNames", spec := "keycmdNames", inPlace := ["internal/bytealg.abigen_runtime_cmpstring", "slices.overlaps[covenant/due.entry[string]]"], unfollowed := true, recurses := true, named := ["strconv.ErrSyntax", "strconv.ErrRange", "internal/strconv.uint64pow10", "math/bits.deBruijn32tab", "math/bits.deBruijn64tab"], apart := false, laid := [("math/bits.deBruijn32tab", laid_math_bits_deBruijn32tab), ("math/bits.deBruijn64tab", laid_math_bits_deBruijn64tab), ("internal/strconv.uint64pow10", laid_internal_strconv_uint64pow10), ("strconv.ErrRange", laid_strconv_ErrRange), ("strconv.ErrSyntax", laid_strconv_ErrSyntax)] }
def KeycmdNamesSaid : Prop := keycmdNamesRow.holds Tryz.pinned (OpenSpec.ofChange keycmdNamesSpec)

/-- ITS FALSE NEIGHBOUR: 'it returns false'. Refute it at one input. -/
def keycmdNamesWrong : ChangeSpec := { name := "keycmdNames", fn := fun _ => fun
  | [d1, d2] => { results := [.lit (.bool false)], args := [d1, d2] }
  | _ => none }
def KeycmdNamesWrongFalsely : Prop := keycmdNamesRow.holds Tryz.pinned (OpenSpec.ofChange keycmdNamesWrong)

/-- 'covenantlaw18.KeycmdBack': WHATEVER THE INPUT: true; the input reads as it did. -/
def keycmdBackSpec : ChangeSpec := { name := "keycmdBack", fn := fun _ => fun
  | [d1, d2, d3] => { results := [.lit (.bool true)], args := [d1, d2, d3] }
  | _ => none }
def keycmdBackRow : OpenClaim := { program := "ythojmgjgmbnopaagreatdoor", sum := "a5bc588fa511985dd90df9aa64a846f1059dba0d4d1e26506f159eba470f768d", func := "covenant/covenantlaw18.KeycmdBack", spec := "keycmdBack", inPlace := ["slices.overlaps[covenant/due.entry[string]]", "internal/bytealg.abigen_runtime_cmpstring"], unfollowed := true, recurses := true, named := ["strconv.ErrSyntax", "strconv.ErrRange", "internal/strconv.uint64pow10", "math/bits.deBruijn32tab", "math/bits.deBruijn64tab"], apart := false, laid := [("math/bits.deBruijn32tab", laid_math_bits_deBruijn32tab), ("math/bits.deBruijn64tab", laid_math_bits_deBruijn64tab), ("internal/strconv.uint64pow10", laid_internal_strconv_uint64pow10), ("strconv.ErrRange", laid_strconv_ErrRange), ("strconv.ErrSyntax", laid_strconv_ErrSyntax)] }
def KeycmdBackSaid : Prop := keycmdBackRow.holds Tryz.pinned (OpenSpec.ofChange keycmdBackSpec)

/-- ITS FALSE NEIGHBOUR: 'it returns false'. Refute it at one input. -/
def keycmdBackWrong : ChangeSpec := { name := "keycmdBack", fn := fun _ => fun
  | [d1, d2, d3] => { results := [.lit (.bool false)], args := [d1, d2, d3] }
  | _ => none }
def KeycmdBackWrongFalsely : Prop := keycmdBackRow.holds Tryz.pinned (OpenSpec.ofChange keycmdBackWrong)

/-- 'covenantlaw18.KeycmdDeadlines': WHATEVER THE INPUT: true; the input reads as it did. -/
def keycmdDeadlinesSpec : ChangeSpec := { name := "keycmdDeadlines", fn := fun _ => fun
  | [d1, d2] => { results := [.lit (.bool true)], args := [d1, d2] }
  | _ => none }
def keycmdDeadlinesRow : OpenClaim := { program := "ythojmgjgmbnopaagreatdoor", sum := "a5bc588fa511985dd90df9aa64a846f1059dba0d4d1e26506f159eba470f768d", func := "covenant/covenantlaw18.KeycmdDeadlines", spec := "keycmdDeadlines", inPlace := ["slices.overlaps[covenant/due.entry[string]]", "internal/bytealg.abigen_runtime_cmpstring"], unfollowed := true, recurses := true, named := ["strconv.ErrSyntax", "strconv.ErrRange", "internal/strconv.uint64pow10", "math/bits.deBruijn32tab", "math/bits.deBruijn64tab"], apart := false, laid := [("math/bits.deBruijn32tab", laid_math_bits_deBruijn32tab), ("math/bits.deBruijn64tab", laid_math_bits_deBruijn64tab), ("internal/strconv.uint64pow10", laid_internal_strconv_uint64pow10), ("strconv.ErrRange", laid_strconv_ErrRange), ("strconv.ErrSyntax", laid_strconv_ErrSyntax)] }
def KeycmdDeadlinesSaid : Prop := keycmdDeadlinesRow.holds Tryz.pinned (OpenSpec.ofChange keycmdDeadlinesSpec)

/-- ITS FALSE NEIGHBOUR: 'it returns false'. Refute it at one input. -/
def keycmdDeadlinesWrong : ChangeSpec := { name := "keycmdDeadlines", fn := fun _ => fun
  | [d1, d2] => { results := [.lit (.bool false)], args := [d1, d2] }
  | _ => none }
def KeycmdDeadlinesWrongFalsely : Prop := keycmdDeadlinesRow.holds Tryz.pinned (OpenSpec.ofChange keycmdDeadlinesWrong)

/-- 'covenantlaw18.KeycmdWalk': WHATEVER THE INPUT: true; the input reads as it did. -/
def keycmdWalkSpec : ChangeSpec := { name := "keycmdWalk", fn := fun _ => fun
  | [d1, d2, d3] => { results := [.lit (.bool true)], args := [d1, d2, d3] }
  | _ => none }
def keycmdWalkRow : OpenClaim := { program := "ythojmgjgmbnopaagreatdoor", sum := "a5bc588fa511985dd90df9aa64a846f1059dba0d4d1e26506f159eba470f768d", func := "covenant/covenantlaw18.KeycmdWalk", spec := "keycmdWalk", inPlace := ["slices.overlaps[covenant/due.entry[string]]", "internal/bytealg.abigen_runtime_cmpstring"], unfollowed := true, recurses := true, named := ["strconv.ErrSyntax", "strconv.ErrRange", "internal/strconv.uint64pow10", "math/bits.deBruijn32tab", "math/bits.deBruijn64tab"], apart := false, laid := [("math/bits.deBruijn32tab", laid_math_bits_deBruijn32tab), ("math/bits.deBruijn64tab", laid_math_bits_deBruijn64tab), ("internal/strconv.uint64pow10", laid_internal_strconv_uint64pow10), ("strconv.ErrRange", laid_strconv_ErrRange), ("strconv.ErrSyntax", laid_strconv_ErrSyntax)] }
def KeycmdWalkSaid : Prop := keycmdWalkRow.holds Tryz.pinned (OpenSpec.ofChange keycmdWalkSpec)

/-- ITS FALSE NEIGHBOUR: 'it returns false'. Refute it at one input. -/
def keycmdWalkWrong : ChangeSpec := { name := "keycmdWalk", fn := fun _ => fun
  | [d1, d2, d3] => { results := [.lit (.bool false)], args := [d1, d2, d3] }
  | _ => none }
def KeycmdWalkWrongFalsely : Prop := keycmdWalkRow.holds Tryz.pinned (OpenSpec.ofChange keycmdWalkWrong)

/-- 'covenantlaw18.KeycmdRuns': WHATEVER THE INPUT: true; the input reads as it did. -/
def keycmdRunsSpec : ChangeSpec := { name := "keycmdRuns", fn := fun _ => fun
  | [d1, d2, d3] => { results := [.lit (.bool true)], args := [d1, d2, d3] }
  | _ => none }
def keycmdRunsRow : OpenClaim := { program := "ythojmgjgmbnopaagreatdoor", sum := "a5bc588fa511985dd90df9aa64a846f1059dba0d4d1e26506f159eba470f768d", func := "covenant/covenantlaw18.KeycmdRuns", spec := "keycmdRuns", inPlace := ["slices.overlaps[covenant/due.entry[string]]", "internal/bytealg.abigen_runtime_cmpstring"], unfollowed := true, recurses := true, named := ["strconv.ErrSyntax", "strconv.ErrRange", "internal/strconv.uint64pow10", "math/bits.deBruijn32tab", "math/bits.deBruijn64tab"], apart := false, laid := [("math/bits.deBruijn32tab", laid_math_bits_deBruijn32tab), ("math/bits.deBruijn64tab", laid_math_bits_deBruijn64tab), ("internal/strconv.uint64pow10", laid_internal_strconv_uint64pow10), ("strconv.ErrRange", laid_strconv_ErrRange), ("strconv.ErrSyntax", laid_strconv_ErrSyntax)] }
def KeycmdRunsSaid : Prop := keycmdRunsRow.holds Tryz.pinned (OpenSpec.ofChange keycmdRunsSpec)

/-- ITS FALSE NEIGHBOUR: 'it returns false'. Refute it at one input. -/
def keycmdRunsWrong : ChangeSpec := { name := "keycmdRuns", fn := fun _ => fun
  | [d1, d2, d3] => { results := [.lit (.bool false)], args := [d1, d2, d3] }
  | _ => none }
def KeycmdRunsWrongFalsely : Prop := keycmdRunsRow.holds Tryz.pinned (OpenSpec.ofChange keycmdRunsWrong)

/-- 'covenantlaw18.KeycmdQuiet': WHATEVER THE INPUT: true; the input reads as it did. -/
def keycmdQuietSpec : ChangeSpec := { name := "keycmdQuiet", fn := fun _ => fun
  | [d1, d2, d3] => { results := [.lit (.bool true)], args := [d1, d2, d3] }
  | _ => none }
def keycmdQuietRow : OpenClaim := { program := "ythojmgjgmbnopaagreatdoor", sum := "a5bc588fa511985dd90df9aa64a846f1059dba0d4d1e26506f159eba470f768d", func := "covenant/covenantlaw18.KeycmdQuiet", spec := "keycmdQuiet", inPlace := ["slices.overlaps[covenant/due.entry[string]]", "internal/bytealg.abigen_runtime_cmpstring"], unfollowed := true, recurses := true, named := ["strconv.ErrSyntax", "strconv.ErrRange", "internal/strconv.uint64pow10", "math/bits.deBruijn32tab", "math/bits.deBruijn64tab"], apart := false, laid := [("math/bits.deBruijn32tab", laid_math_bits_deBruijn32tab), ("math/bits.deBruijn64tab", laid_math_bits_deBruijn64tab), ("internal/strconv.uint64pow10", laid_internal_strconv_uint64pow10), ("strconv.ErrRange", laid_strconv_ErrRange), ("strconv.ErrSyntax", laid_strconv_ErrSyntax)] }
def KeycmdQuietSaid : Prop := keycmdQuietRow.holds Tryz.pinned (OpenSpec.ofChange keycmdQuietSpec)

/-- ITS FALSE NEIGHBOUR: 'it returns false'. Refute it at one input. -/
def keycmdQuietWrong : ChangeSpec := { name := "keycmdQuiet", fn := fun _ => fun
  | [d1, d2, d3] => { results := [.lit (.bool false)], args := [d1, d2, d3] }
  | _ => none }
def KeycmdQuietWrongFalsely : Prop := keycmdQuietRow.holds Tryz.pinned (OpenSpec.ofChange keycmdQuietWrong)

/-- 'covenantlaw17.StrcmdNames': WHATEVER THE INPUT: true; the input reads as it did. -/
def strcmdNamesSpec : ChangeSpec := { name := "strcmdNames", fn := fun _ => fun
  | [d1, d2] => { results := [.lit (.bool true)], args := [d1, d2] }
  | _ => none }
def strcmdNamesRow : OpenClaim := { program := "ythojmgjgmbnopaagreatdoor", sum := "a5bc588fa511985dd90df9aa64a846f1059dba0d4d1e26506f159eba470f768d", func := "covenant/covenantlaw17.StrcmdNames", spec := "strcmdNames", inPlace := ["slices.overlaps[covenant/due.entry[string]]", "internal/bytealg.abigen_runtime_cmpstring"], unfollowed := true, recurses := true, named := ["strconv.ErrSyntax", "strconv.ErrRange", "internal/strconv.uint64pow10", "math/bits.deBruijn32tab", "math/bits.deBruijn64tab"], apart := false, laid := [("math/bits.deBruijn32tab", laid_math_bits_deBruijn32tab), ("math/bits.deBruijn64tab", laid_math_bits_deBruijn64tab), ("internal/strconv.uint64pow10", laid_internal_strconv_uint64pow10), ("strconv.ErrRange", laid_strconv_ErrRange), ("strconv.ErrSyntax", laid_strconv_ErrSyntax)] }
def StrcmdNamesSaid : Prop := strcmdNamesRow.holds Tryz.pinned (OpenSpec.ofChange strcmdNamesSpec)

/-- ITS FALSE NEIGHBOUR: 'it returns false'. Refute it at one input. -/
def strcmdNamesWrong : ChangeSpec := { name := "strcmdNames", fn := fun _ => fun
  | [d1, d2] => { results := [.lit (.bool false)], args := [d1, d2] }
  | _ => none }
def StrcmdNamesWrongFalsely : Prop := strcmdNamesRow.holds Tryz.pinned (OpenSpec.ofChange strcmdNamesWrong)

/-- 'covenantlaw17.StrcmdMany': WHATEVER THE INPUT: true; the input reads as it did. -/
def strcmdManySpec : ChangeSpec := { name := "strcmdMany", fn := fun _ => fun
  | [d1, d2, d3] => { results := [.lit (.bool true)], args := [d1, d2, d3] }
  | _ => none }
def strcmdManyRow : OpenClaim := { program := "ythojmgjgmbnopaagreatdoor", sum := "a5bc588fa511985dd90df9aa64a846f1059dba0d4d1e26506f159eba470f768d", func := "covenant/covenantlaw17.StrcmdMany", spec := "strcmdMany", inPlace := ["slices.overlaps[covenant/due.entry[string]]", "internal/bytealg.abigen_runtime_cmpstring"], unfollowed := true, recurses := true, named := ["strconv.ErrSyntax", "strconv.ErrRange", "internal/strconv.uint64pow10", "math/bits.deBruijn32tab", "math/bits.deBruijn64tab"], apart := false, laid := [("math/bits.deBruijn32tab", laid_math_bits_deBruijn32tab), ("math/bits.deBruijn64tab", laid_math_bits_deBruijn64tab), ("internal/strconv.uint64pow10", laid_internal_strconv_uint64pow10), ("strconv.ErrRange", laid_strconv_ErrRange), ("strconv.ErrSyntax", laid_strconv_ErrSyntax)] }
def StrcmdManySaid : Prop := strcmdManyRow.holds Tryz.pinned (OpenSpec.ofChange strcmdManySpec)

/-- ITS FALSE NEIGHBOUR: 'it returns false'. Refute it at one input. -/
def strcmdManyWrong : ChangeSpec := { name := "strcmdMany", fn := fun _ => fun
  | [d1, d2, d3] => { results := [.lit (.bool false)], args := [d1, d2, d3] }
  | _ => none }
def StrcmdManyWrongFalsely : Prop := strcmdManyRow.holds Tryz.pinned (OpenSpec.ofChange strcmdManyWrong)

/-- 'covenantlaw17.StrcmdRefused': WHATEVER THE INPUT: true; the input reads as it did. -/
def strcmdRefusedSpec : ChangeSpec := { name := "strcmdRefused", fn := fun _ => fun
  | [d1, d2] => { results := [.lit (.bool true)], args := [d1, d2] }
  | _ => none }
def strcmdRefusedRow : OpenClaim := { program := "ythojmgjgmbnopaagreatdoor", sum := "a5bc588fa511985dd90df9aa64a846f1059dba0d4d1e26506f159eba470f768d", func := "covenant/covenantlaw17.StrcmdRefused", spec := "strcmdRefused", inPlace := ["slices.overlaps[covenant/due.entry[string]]", "internal/bytealg.abigen_runtime_cmpstring"], unfollowed := true, recurses := true, named := ["strconv.ErrSyntax", "strconv.ErrRange", "internal/strconv.uint64pow10", "math/bits.deBruijn32tab", "math/bits.deBruijn64tab"], apart := false, laid := [("math/bits.deBruijn32tab", laid_math_bits_deBruijn32tab), ("math/bits.deBruijn64tab", laid_math_bits_deBruijn64tab), ("internal/strconv.uint64pow10", laid_internal_strconv_uint64pow10), ("strconv.ErrRange", laid_strconv_ErrRange), ("strconv.ErrSyntax", laid_strconv_ErrSyntax)] }
def StrcmdRefusedSaid : Prop := strcmdRefusedRow.holds Tryz.pinned (OpenSpec.ofChange strcmdRefusedSpec)

/-- ITS FALSE NEIGHBOUR: 'it returns false'. Refute it at one input. -/
def strcmdRefusedWrong : ChangeSpec := { name := "strcmdRefused", fn := fun _ => fun
  | [d1, d2] => { results := [.lit (.bool false)], args := [d1, d2] }
  | _ => none }
def StrcmdRefusedWrongFalsely : Prop := strcmdRefusedRow.holds Tryz.pinned (OpenSpec.ofChange strcmdRefusedWrong)

/- THE SECOND FORM. 'bulk': how many values and letters a reading holds, each counted each time it is reached (what is shared counts as often as it is met; a slice's spare places count too). A statement '..UptoSaid' is the law's where the arguments, and the package variables that the reading takes, are together of bulk at most 1048576: NARROWER than '..Said'. Prove '..Said' where nothing that the law and all that it calls make is longer than what came in: it says more and counts as full. Else prove '..UptoSaid'. A law counts once. -/
mutual
def uptoBulk {H : Type} : DataW H → Nat
  | .lit (.string bytes) => bytes.length + 1
  | .lit _ => 1
  | .nil => 1
  | .ptr d => uptoBulk d + 1
  | .slice elems spare => uptoBulkAll elems + uptoBulkAll spare + 1
  | .agg parts => uptoBulkAll parts + 1
  | .iface _ d => uptoBulk d + 1
  | .map entries => uptoBulkEntries entries + 1
  | .held _ => 1
def uptoBulkAll {H : Type} : List (DataW H) → Nat
  | [] => 0
  | d :: r => uptoBulk d + uptoBulkAll r
def uptoBulkEntries {H : Type} : List (Lit × DataW H) → Nat
  | [] => 0
  | x :: r => uptoBulkEntry x + uptoBulkEntries r
def uptoBulkEntry {H : Type} : Lit × DataW H → Nat
  | (.string bytes, d) => bytes.length + uptoBulk d + 1
  | (_, d) => uptoBulk d + 1
 end
def uptoSmall : (H : Type) → List (DataW H) → Bool := fun _ ds => decide (uptoBulkAll ds ≤ 1048576)
def OpenSpec.upto (s : _root_.Go.ChangeSpec) : _root_.Go.OpenSpec := { _root_.Go.OpenSpec.ofChange s with cond := some uptoSmall }

/-- 'covenantlaw17.StrcmdSets', WHERE WHAT IT READS IS OF BULK AT MOST 1048576: true; the input reads as it did. -/
def strcmdSetsUptoRow : OpenClaim := { program := "ythojmgjgmbnopaagreatdoor", sum := "a5bc588fa511985dd90df9aa64a846f1059dba0d4d1e26506f159eba470f768d", func := "covenant/covenantlaw17.StrcmdSets", spec := "strcmdSets", inPlace := ["slices.overlaps[covenant/due.entry[string]]", "internal/bytealg.abigen_runtime_cmpstring"], unfollowed := true, recurses := true, named := ["strconv.ErrSyntax", "strconv.ErrRange", "internal/strconv.uint64pow10", "math/bits.deBruijn32tab", "math/bits.deBruijn64tab"], apart := false, laid := [("math/bits.deBruijn32tab", laid_math_bits_deBruijn32tab), ("math/bits.deBruijn64tab", laid_math_bits_deBruijn64tab), ("internal/strconv.uint64pow10", laid_internal_strconv_uint64pow10), ("strconv.ErrRange", laid_strconv_ErrRange), ("strconv.ErrSyntax", laid_strconv_ErrSyntax)], narrowed := true }
def StrcmdSetsUptoSaid : Prop := strcmdSetsUptoRow.holds Tryz.pinned (OpenSpec.upto strcmdSetsSpec)

/-- 'covenantlaw17.StrcmdCounts', WHERE WHAT IT READS IS OF BULK AT MOST 1048576: true; the input reads as it did. -/
def strcmdCountsUptoRow : OpenClaim := { program := "ythojmgjgmbnopaagreatdoor", sum := "a5bc588fa511985dd90df9aa64a846f1059dba0d4d1e26506f159eba470f768d", func := "covenant/covenantlaw17.StrcmdCounts", spec := "strcmdCounts", inPlace := ["slices.overlaps[covenant/due.entry[string]]", "internal/bytealg.abigen_runtime_cmpstring"], unfollowed := true, recurses := true, named := ["strconv.ErrSyntax", "strconv.ErrRange", "internal/strconv.uint64pow10", "math/bits.deBruijn32tab", "math/bits.deBruijn64tab"], apart := false, laid := [("math/bits.deBruijn32tab", laid_math_bits_deBruijn32tab), ("math/bits.deBruijn64tab", laid_math_bits_deBruijn64tab), ("internal/strconv.uint64pow10", laid_internal_strconv_uint64pow10), ("strconv.ErrRange", laid_strconv_ErrRange), ("strconv.ErrSyntax", laid_strconv_ErrSyntax)], narrowed := true }
def StrcmdCountsUptoSaid : Prop := strcmdCountsUptoRow.holds Tryz.pinned (OpenSpec.upto strcmdCountsSpec)

/-- 'covenantlaw17.StrcmdBits', WHERE WHAT IT READS IS OF BULK AT MOST 1048576: true; the input reads as it did. -/
def strcmdBitsUptoRow : OpenClaim := { program := "ythojmgjgmbnopaagreatdoor", sum := "a5bc588fa511985dd90df9aa64a846f1059dba0d4d1e26506f159eba470f768d", func := "covenant/covenantlaw17.StrcmdBits", spec := "strcmdBits", inPlace := ["slices.overlaps[covenant/due.entry[string]]", "internal/bytealg.abigen_runtime_cmpstring"], unfollowed := true, recurses := true, named := ["strconv.ErrSyntax", "strconv.ErrRange", "internal/strconv.uint64pow10", "math/bits.deBruijn32tab", "math/bits.deBruijn64tab"], apart := false, laid := [("math/bits.deBruijn32tab", laid_math_bits_deBruijn32tab), ("math/bits.deBruijn64tab", laid_math_bits_deBruijn64tab), ("internal/strconv.uint64pow10", laid_internal_strconv_uint64pow10), ("strconv.ErrRange", laid_strconv_ErrRange), ("strconv.ErrSyntax", laid_strconv_ErrSyntax)], narrowed := true }
def StrcmdBitsUptoSaid : Prop := strcmdBitsUptoRow.holds Tryz.pinned (OpenSpec.upto strcmdBitsSpec)

/-- 'covenantlaw18.KeycmdNames', WHERE WHAT IT READS IS OF BULK AT MOST 1048576: true; the input reads as it did. -/
def keycmdNamesUptoRow : OpenClaim := { program := "ythojmgjgmbnopaagreatdoor", sum := "a5bc588fa511985dd90df9aa64a846f1059dba0d4d1e26506f159eba470f768d", func := "covenant/covenantlaw18.KeycmdNames", spec := "keycmdNames", inPlace := ["internal/bytealg.abigen_runtime_cmpstring", "slices.overlaps[covenant/due.entry[string]]"], unfollowed := true, recurses := true, named := ["strconv.ErrSyntax", "strconv.ErrRange", "internal/strconv.uint64pow10", "math/bits.deBruijn32tab", "math/bits.deBruijn64tab"], apart := false, laid := [("math/bits.deBruijn32tab", laid_math_bits_deBruijn32tab), ("math/bits.deBruijn64tab", laid_math_bits_deBruijn64tab), ("internal/strconv.uint64pow10", laid_internal_strconv_uint64pow10), ("strconv.ErrRange", laid_strconv_ErrRange), ("strconv.ErrSyntax", laid_strconv_ErrSyntax)], narrowed := true }
def KeycmdNamesUptoSaid : Prop := keycmdNamesUptoRow.holds Tryz.pinned (OpenSpec.upto keycmdNamesSpec)

/-- 'covenantlaw18.KeycmdBack', WHERE WHAT IT READS IS OF BULK AT MOST 1048576: true; the input reads as it did. -/
def keycmdBackUptoRow : OpenClaim := { program := "ythojmgjgmbnopaagreatdoor", sum := "a5bc588fa511985dd90df9aa64a846f1059dba0d4d1e26506f159eba470f768d", func := "covenant/covenantlaw18.KeycmdBack", spec := "keycmdBack", inPlace := ["slices.overlaps[covenant/due.entry[string]]", "internal/bytealg.abigen_runtime_cmpstring"], unfollowed := true, recurses := true, named := ["strconv.ErrSyntax", "strconv.ErrRange", "internal/strconv.uint64pow10", "math/bits.deBruijn32tab", "math/bits.deBruijn64tab"], apart := false, laid := [("math/bits.deBruijn32tab", laid_math_bits_deBruijn32tab), ("math/bits.deBruijn64tab", laid_math_bits_deBruijn64tab), ("internal/strconv.uint64pow10", laid_internal_strconv_uint64pow10), ("strconv.ErrRange", laid_strconv_ErrRange), ("strconv.ErrSyntax", laid_strconv_ErrSyntax)], narrowed := true }
def KeycmdBackUptoSaid : Prop := keycmdBackUptoRow.holds Tryz.pinned (OpenSpec.upto keycmdBackSpec)

/-- 'covenantlaw18.KeycmdDeadlines', WHERE WHAT IT READS IS OF BULK AT MOST 1048576: true; the input reads as it did. -/
def keycmdDeadlinesUptoRow : OpenClaim := { program := "ythojmgjgmbnopaagreatdoor", sum := "a5bc588fa511985dd90df9aa64a846f1059dba0d4d1e26506f159eba470f768d", func := "covenant/covenantlaw18.KeycmdDeadlines", spec := "keycmdDeadlines", inPlace := ["slices.overlaps[covenant/due.entry[string]]", "internal/bytealg.abigen_runtime_cmpstring"], unfollowed := true, recurses := true, named := ["strconv.ErrSyntax", "strconv.ErrRange", "internal/strconv.uint64pow10", "math/bits.deBruijn32tab", "math/bits.deBruijn64tab"], apart := false, laid := [("math/bits.deBruijn32tab", laid_math_bits_deBruijn32tab), ("math/bits.deBruijn64tab", laid_math_bits_deBruijn64tab), ("internal/strconv.uint64pow10", laid_internal_strconv_uint64pow10), ("strconv.ErrRange", laid_strconv_ErrRange), ("strconv.ErrSyntax", laid_strconv_ErrSyntax)], narrowed := true }
def KeycmdDeadlinesUptoSaid : Prop := keycmdDeadlinesUptoRow.holds Tryz.pinned (OpenSpec.upto keycmdDeadlinesSpec)

/-- 'covenantlaw18.KeycmdWalk', WHERE WHAT IT READS IS OF BULK AT MOST 1048576: true; the input reads as it did. -/
def keycmdWalkUptoRow : OpenClaim := { program := "ythojmgjgmbnopaagreatdoor", sum := "a5bc588fa511985dd90df9aa64a846f1059dba0d4d1e26506f159eba470f768d", func := "covenant/covenantlaw18.KeycmdWalk", spec := "keycmdWalk", inPlace := ["slices.overlaps[covenant/due.entry[string]]", "internal/bytealg.abigen_runtime_cmpstring"], unfollowed := true, recurses := true, named := ["strconv.ErrSyntax", "strconv.ErrRange", "internal/strconv.uint64pow10", "math/bits.deBruijn32tab", "math/bits.deBruijn64tab"], apart := false, laid := [("math/bits.deBruijn32tab", laid_math_bits_deBruijn32tab), ("math/bits.deBruijn64tab", laid_math_bits_deBruijn64tab), ("internal/strconv.uint64pow10", laid_internal_strconv_uint64pow10), ("strconv.ErrRange", laid_strconv_ErrRange), ("strconv.ErrSyntax", laid_strconv_ErrSyntax)], narrowed := true }
def KeycmdWalkUptoSaid : Prop := keycmdWalkUptoRow.holds Tryz.pinned (OpenSpec.upto keycmdWalkSpec)

/-- 'covenantlaw18.KeycmdRuns', WHERE WHAT IT READS IS OF BULK AT MOST 1048576: true; the input reads as it did. -/
def keycmdRunsUptoRow : OpenClaim := { program := "ythojmgjgmbnopaagreatdoor", sum := "a5bc588fa511985dd90df9aa64a846f1059dba0d4d1e26506f159eba470f768d", func := "covenant/covenantlaw18.KeycmdRuns", spec := "keycmdRuns", inPlace := ["slices.overlaps[covenant/due.entry[string]]", "internal/bytealg.abigen_runtime_cmpstring"], unfollowed := true, recurses := true, named := ["strconv.ErrSyntax", "strconv.ErrRange", "internal/strconv.uint64pow10", "math/bits.deBruijn32tab", "math/bits.deBruijn64tab"], apart := false, laid := [("math/bits.deBruijn32tab", laid_math_bits_deBruijn32tab), ("math/bits.deBruijn64tab", laid_math_bits_deBruijn64tab), ("internal/strconv.uint64pow10", laid_internal_strconv_uint64pow10), ("strconv.ErrRange", laid_strconv_ErrRange), ("strconv.ErrSyntax", laid_strconv_ErrSyntax)], narrowed := true }
def KeycmdRunsUptoSaid : Prop := keycmdRunsUptoRow.holds Tryz.pinned (OpenSpec.upto keycmdRunsSpec)

/-- 'covenantlaw18.KeycmdQuiet', WHERE WHAT IT READS IS OF BULK AT MOST 1048576: true; the input reads as it did. -/
def keycmdQuietUptoRow : OpenClaim := { program := "ythojmgjgmbnopaagreatdoor", sum := "a5bc588fa511985dd90df9aa64a846f1059dba0d4d1e26506f159eba470f768d", func := "covenant/covenantlaw18.KeycmdQuiet", spec := "keycmdQuiet", inPlace := ["slices.overlaps[covenant/due.entry[string]]", "internal/bytealg.abigen_runtime_cmpstring"], unfollowed := true, recurses := true, named := ["strconv.ErrSyntax", "strconv.ErrRange", "internal/strconv.uint64pow10", "math/bits.deBruijn32tab", "math/bits.deBruijn64tab"], apart := false, laid := [("math/bits.deBruijn32tab", laid_math_bits_deBruijn32tab), ("math/bits.deBruijn64tab", laid_math_bits_deBruijn64tab), ("internal/strconv.uint64pow10", laid_internal_strconv_uint64pow10), ("strconv.ErrRange", laid_strconv_ErrRange), ("strconv.ErrSyntax", laid_strconv_ErrSyntax)], narrowed := true }
def KeycmdQuietUptoSaid : Prop := keycmdQuietUptoRow.holds Tryz.pinned (OpenSpec.upto keycmdQuietSpec)

/-- 'covenantlaw17.StrcmdNames', WHERE WHAT IT READS IS OF BULK AT MOST 1048576: true; the input reads as it did. -/
def strcmdNamesUptoRow : OpenClaim := { program := "ythojmgjgmbnopaagreatdoor", sum := "a5bc588fa511985dd90df9aa64a846f1059dba0d4d1e26506f159eba470f768d", func := "covenant/covenantlaw17.StrcmdNames", spec := "strcmdNames", inPlace := ["slices.overlaps[covenant/due.entry[string]]", "internal/bytealg.abigen_runtime_cmpstring"], unfollowed := true, recurses := true, named := ["strconv.ErrSyntax", "strconv.ErrRange", "internal/strconv.uint64pow10", "math/bits.deBruijn32tab", "math/bits.deBruijn64tab"], apart := false, laid := [("math/bits.deBruijn32tab", laid_math_bits_deBruijn32tab), ("math/bits.deBruijn64tab", laid_math_bits_deBruijn64tab), ("internal/strconv.uint64pow10", laid_internal_strconv_uint64pow10), ("strconv.ErrRange", laid_strconv_ErrRange), ("strconv.ErrSyntax", laid_strconv_ErrSyntax)], narrowed := true }
def StrcmdNamesUptoSaid : Prop := strcmdNamesUptoRow.holds Tryz.pinned (OpenSpec.upto strcmdNamesSpec)

/-- 'covenantlaw17.StrcmdMany', WHERE WHAT IT READS IS OF BULK AT MOST 1048576: true; the input reads as it did. -/
def strcmdManyUptoRow : OpenClaim := { program := "ythojmgjgmbnopaagreatdoor", sum := "a5bc588fa511985dd90df9aa64a846f1059dba0d4d1e26506f159eba470f768d", func := "covenant/covenantlaw17.StrcmdMany", spec := "strcmdMany", inPlace := ["slices.overlaps[covenant/due.entry[string]]", "internal/bytealg.abigen_runtime_cmpstring"], unfollowed := true, recurses := true, named := ["strconv.ErrSyntax", "strconv.ErrRange", "internal/strconv.uint64pow10", "math/bits.deBruijn32tab", "math/bits.deBruijn64tab"], apart := false, laid := [("math/bits.deBruijn32tab", laid_math_bits_deBruijn32tab), ("math/bits.deBruijn64tab", laid_math_bits_deBruijn64tab), ("internal/strconv.uint64pow10", laid_internal_strconv_uint64pow10), ("strconv.ErrRange", laid_strconv_ErrRange), ("strconv.ErrSyntax", laid_strconv_ErrSyntax)], narrowed := true }
def StrcmdManyUptoSaid : Prop := strcmdManyUptoRow.holds Tryz.pinned (OpenSpec.upto strcmdManySpec)

/-- 'covenantlaw17.StrcmdRefused', WHERE WHAT IT READS IS OF BULK AT MOST 1048576: true; the input reads as it did. -/
def strcmdRefusedUptoRow : OpenClaim := { program := "ythojmgjgmbnopaagreatdoor", sum := "a5bc588fa511985dd90df9aa64a846f1059dba0d4d1e26506f159eba470f768d", func := "covenant/covenantlaw17.StrcmdRefused", spec := "strcmdRefused", inPlace := ["slices.overlaps[covenant/due.entry[string]]", "internal/bytealg.abigen_runtime_cmpstring"], unfollowed := true, recurses := true, named := ["strconv.ErrSyntax", "strconv.ErrRange", "internal/strconv.uint64pow10", "math/bits.deBruijn32tab", "math/bits.deBruijn64tab"], apart := false, laid := [("math/bits.deBruijn32tab", laid_math_bits_deBruijn32tab), ("math/bits.deBruijn64tab", laid_math_bits_deBruijn64tab), ("internal/strconv.uint64pow10", laid_internal_strconv_uint64pow10), ("strconv.ErrRange", laid_strconv_ErrRange), ("strconv.ErrSyntax", laid_strconv_ErrSyntax)], narrowed := true }
def StrcmdRefusedUptoSaid : Prop := strcmdRefusedUptoRow.holds Tryz.pinned (OpenSpec.upto strcmdRefusedSpec)

end Rows
end Go.Proofs.YthojmgjgmbnopaaGreatDoor
