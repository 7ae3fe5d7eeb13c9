/-
  NARROWER THAN 'FOR EVERY INPUT', by the rows' own cells (each row's printed sentence says how): ListcmdMoves: laid · ListcmdTurns: laid · ListcmdNames: laid · ListcmdKeeps: laid · ListcmdFinds: laid · ListcmdRuns: laid · ListcmdRefused: laid.
  DERIVED. THE GIVEN ROWS OF THIS SEAT. 7 by the template 'for every input the law returns true; each argument reads behind the call as it read before'; 0 by the template 'total and deterministic' (their statements: YtgmmeeikjofefaaGreatDoorTotals.lean).
  GIVEN WITH THE SEED: the statements are not yours to turn. If you find one false, say at which input.
  Laid BY PROGRAM, IN A SANDBOX (cutbox-rows.mjs): the forced cells as the released guide's own fill.sh prints them over the translation 1f8a9558f07c5661… (all of the seat's roots in one cut). By AI agents, Wed Nov 11 2026. No macro, syntax, notation, axiom, sorry.
-/
import Derived.Test.YtgmmeeikjofefaaGreatDoorChecked
import GoSem.Claim
import GoSem.ClaimJoined
import GoSem.ClaimMapViews
import Derived.JoinedTies
import Derived.KernelRfl
namespace Go.Proofs.YtgmmeeikjofefaaGreatDoor
/- THE CELL 'sum', in the pinned program and in every row, IS THE sha256 OF THE DUMP (.gsa) THAT YtgmmeeikjofefaaGreatDoorProg.lean LOADS. Nothing in Lean hashes anything: it is a label: what it is worth is what the hold of that sum in a sandbox is worth. -/
noncomputable def Tryz.pinned : Pinned := { name := "ytgmmeeikjofefaagreatdoor", sum := "1f8a9558f07c56612a486a3718a567d81e712fe8fa41ef2424dbdf88d7047768", checked := Tryz.checked }
namespace Rows
def none {H : Type} : Left H := { results := [], args := [] }

/- WHAT THE LISTED PACKAGE-LEVEL VARIABLES READ AS WHEN THE CALL BEGINS. Each datum BY PROGRAM (the guide's laid-datum.mjs) off the statement by which the dump's own 'gosem.cut.vars' lays the variable. In a bare row this is a premise. The card (YtgmmeeikjofefaaGreatDoorCards.lean) ties it to the program's text. -/
def laid_math_bits_deBruijn32tab {H : Type} : DataW H := .agg [.lit (.int .u8 0), .lit (.int .u8 1), .lit (.int .u8 28), .lit (.int .u8 2), .lit (.int .u8 29), .lit (.int .u8 14), .lit (.int .u8 24), .lit (.int .u8 3), .lit (.int .u8 30), .lit (.int .u8 22), .lit (.int .u8 20), .lit (.int .u8 15), .lit (.int .u8 25), .lit (.int .u8 17), .lit (.int .u8 4), .lit (.int .u8 8), .lit (.int .u8 31), .lit (.int .u8 27), .lit (.int .u8 13), .lit (.int .u8 23), .lit (.int .u8 21), .lit (.int .u8 19), .lit (.int .u8 16), .lit (.int .u8 7), .lit (.int .u8 26), .lit (.int .u8 12), .lit (.int .u8 18), .lit (.int .u8 6), .lit (.int .u8 11), .lit (.int .u8 5), .lit (.int .u8 10), .lit (.int .u8 9)]
def laid_math_bits_deBruijn64tab {H : Type} : DataW H := .agg [.lit (.int .u8 0), .lit (.int .u8 1), .lit (.int .u8 56), .lit (.int .u8 2), .lit (.int .u8 57), .lit (.int .u8 49), .lit (.int .u8 28), .lit (.int .u8 3), .lit (.int .u8 61), .lit (.int .u8 58), .lit (.int .u8 42), .lit (.int .u8 50), .lit (.int .u8 38), .lit (.int .u8 29), .lit (.int .u8 17), .lit (.int .u8 4), .lit (.int .u8 62), .lit (.int .u8 47), .lit (.int .u8 59), .lit (.int .u8 36), .lit (.int .u8 45), .lit (.int .u8 43), .lit (.int .u8 51), .lit (.int .u8 22), .lit (.int .u8 53), .lit (.int .u8 39), .lit (.int .u8 33), .lit (.int .u8 30), .lit (.int .u8 24), .lit (.int .u8 18), .lit (.int .u8 12), .lit (.int .u8 5), .lit (.int .u8 63), .lit (.int .u8 55), .lit (.int .u8 48), .lit (.int .u8 27), .lit (.int .u8 60), .lit (.int .u8 41), .lit (.int .u8 37), .lit (.int .u8 16), .lit (.int .u8 46), .lit (.int .u8 35), .lit (.int .u8 44), .lit (.int .u8 21), .lit (.int .u8 52), .lit (.int .u8 32), .lit (.int .u8 23), .lit (.int .u8 11), .lit (.int .u8 54), .lit (.int .u8 26), .lit (.int .u8 40), .lit (.int .u8 15), .lit (.int .u8 34), .lit (.int .u8 20), .lit (.int .u8 31), .lit (.int .u8 10), .lit (.int .u8 25), .lit (.int .u8 14), .lit (.int .u8 19), .lit (.int .u8 9), .lit (.int .u8 13), .lit (.int .u8 8), .lit (.int .u8 7), .lit (.int .u8 6)]
def laid_internal_strconv_uint64pow10 {H : Type} : DataW H := .agg [.lit (.int .u64 1), .lit (.int .u64 10), .lit (.int .u64 100), .lit (.int .u64 1000), .lit (.int .u64 10000), .lit (.int .u64 100000), .lit (.int .u64 1000000), .lit (.int .u64 10000000), .lit (.int .u64 100000000), .lit (.int .u64 1000000000), .lit (.int .u64 10000000000), .lit (.int .u64 100000000000), .lit (.int .u64 1000000000000), .lit (.int .u64 10000000000000), .lit (.int .u64 100000000000000), .lit (.int .u64 1000000000000000), .lit (.int .u64 10000000000000000), .lit (.int .u64 100000000000000000), .lit (.int .u64 1000000000000000000), .lit (.int .u64 10000000000000000000)]
def laid_strconv_ErrRange {H : Type} : DataW H := .iface "*errors.errorString" (.ptr (.agg [.lit (.string [118, 97, 108, 117, 101, 32, 111, 117, 116, 32, 111, 102, 32, 114, 97, 110, 103, 101])]))
def laid_strconv_ErrSyntax {H : Type} : DataW H := .iface "*errors.errorString" (.ptr (.agg [.lit (.string [105, 110, 118, 97, 108, 105, 100, 32, 115, 121, 110, 116, 97, 120])]))

/-- 'covenantlaw19.ListcmdMoves': WHATEVER THE INPUT: true; the input reads as it did. -/
def listcmdMovesSpec : ChangeSpec := { name := "listcmdMoves", fn := fun _ => fun
  | [d1, d2, d3] => { results := [.lit (.bool true)], args := [d1, d2, d3] }
  | _ => none }
def listcmdMovesRow : OpenClaim := { program := "ytgmmeeikjofefaagreatdoor", sum := "1f8a9558f07c56612a486a3718a567d81e712fe8fa41ef2424dbdf88d7047768", func := "covenant/covenantlaw19.ListcmdMoves", spec := "listcmdMoves", inPlace := ["internal/bytealg.abigen_runtime_cmpstring", "slices.overlaps[covenant/due.entry[string]]", "slices.overlaps[string]"], unfollowed := true, recurses := true, named := ["strconv.ErrSyntax", "strconv.ErrRange", "internal/strconv.uint64pow10", "math/bits.deBruijn32tab", "math/bits.deBruijn64tab"], apart := false, laid := [("math/bits.deBruijn32tab", laid_math_bits_deBruijn32tab), ("math/bits.deBruijn64tab", laid_math_bits_deBruijn64tab), ("internal/strconv.uint64pow10", laid_internal_strconv_uint64pow10), ("strconv.ErrRange", laid_strconv_ErrRange), ("strconv.ErrSyntax", laid_strconv_ErrSyntax)] }
def ListcmdMovesSaid : Prop := listcmdMovesRow.holds Tryz.pinned (OpenSpec.ofChange listcmdMovesSpec)

/-- ITS FALSE NEIGHBOUR: 'it returns false'. Refute it at one input. -/
def listcmdMovesWrong : ChangeSpec := { name := "listcmdMoves", fn := fun _ => fun
  | [d1, d2, d3] => { results := [.lit (.bool false)], args := [d1, d2, d3] }
  | _ => none }
def ListcmdMovesWrongFalsely : Prop := listcmdMovesRow.holds Tryz.pinned (OpenSpec.ofChange listcmdMovesWrong)

/-- 'covenantlaw19.ListcmdTurns': WHATEVER THE INPUT: true; the input reads as it did. -/
def listcmdTurnsSpec : ChangeSpec := { name := "listcmdTurns", fn := fun _ => fun
  | [d1, d2] => { results := [.lit (.bool true)], args := [d1, d2] }
  | _ => none }
def listcmdTurnsRow : OpenClaim := { program := "ytgmmeeikjofefaagreatdoor", sum := "1f8a9558f07c56612a486a3718a567d81e712fe8fa41ef2424dbdf88d7047768", func := "covenant/covenantlaw19.ListcmdTurns", spec := "listcmdTurns", inPlace := ["internal/bytealg.abigen_runtime_cmpstring", "slices.overlaps[covenant/due.entry[string]]", "slices.overlaps[string]"], unfollowed := true, recurses := true, named := ["strconv.ErrSyntax", "strconv.ErrRange", "internal/strconv.uint64pow10", "math/bits.deBruijn32tab", "math/bits.deBruijn64tab"], apart := false, laid := [("math/bits.deBruijn32tab", laid_math_bits_deBruijn32tab), ("math/bits.deBruijn64tab", laid_math_bits_deBruijn64tab), ("internal/strconv.uint64pow10", laid_internal_strconv_uint64pow10), ("strconv.ErrRange", laid_strconv_ErrRange), ("strconv.ErrSyntax", laid_strconv_ErrSyntax)] }
def ListcmdTurnsSaid : Prop := listcmdTurnsRow.holds Tryz.pinned (OpenSpec.ofChange listcmdTurnsSpec)

/-- ITS FALSE NEIGHBOUR: 'it returns false'. Refute it at one input. -/
def listcmdTurnsWrong : ChangeSpec := { name := "listcmdTurns", fn := fun _ => fun
  | [d1, d2] => { results := [.lit (.bool false)], args := [d1, d2] }
  | _ => none }
def ListcmdTurnsWrongFalsely : Prop := listcmdTurnsRow.holds Tryz.pinned (OpenSpec.ofChange listcmdTurnsWrong)

/-- 'covenantlaw19.ListcmdNames': WHATEVER THE INPUT: true; the input reads as it did. -/
def listcmdNamesSpec : ChangeSpec := { name := "listcmdNames", fn := fun _ => fun
  | [d1, d2] => { results := [.lit (.bool true)], args := [d1, d2] }
  | _ => none }
def listcmdNamesRow : OpenClaim := { program := "ytgmmeeikjofefaagreatdoor", sum := "1f8a9558f07c56612a486a3718a567d81e712fe8fa41ef2424dbdf88d7047768", func := "covenant/covenantlaw19.ListcmdNames", spec := "listcmdNames", inPlace := ["internal/bytealg.abigen_runtime_cmpstring", "slices.overlaps[covenant/due.entry[string]]", "slices.overlaps[string]"], unfollowed := true, recurses := true, named := ["strconv.ErrSyntax", "strconv.ErrRange", "internal/strconv.uint64pow10", "math/bits.deBruijn32tab", "math/bits.deBruijn64tab"], apart := false, laid := [("math/bits.deBruijn32tab", laid_math_bits_deBruijn32tab), ("math/bits.deBruijn64tab", laid_math_bits_deBruijn64tab), ("internal/strconv.uint64pow10", laid_internal_strconv_uint64pow10), ("strconv.ErrRange", laid_strconv_ErrRange), ("strconv.ErrSyntax", laid_strconv_ErrSyntax)] }
def ListcmdNamesSaid : Prop := listcmdNamesRow.holds Tryz.pinned (OpenSpec.ofChange listcmdNamesSpec)

/-- ITS FALSE NEIGHBOUR: 'it returns false'. Refute it at one input. -/
def listcmdNamesWrong : ChangeSpec := { name := "listcmdNames", fn := fun _ => fun
  | [d1, d2] => { results := [.lit (.bool false)], args := [d1, d2] }
  | _ => none }
def ListcmdNamesWrongFalsely : Prop := listcmdNamesRow.holds Tryz.pinned (OpenSpec.ofChange listcmdNamesWrong)

/-- 'covenantlaw19.ListcmdKeeps': WHATEVER THE INPUT: true; the input reads as it did. -/
def listcmdKeepsSpec : ChangeSpec := { name := "listcmdKeeps", fn := fun _ => fun
  | [d1, d2] => { results := [.lit (.bool true)], args := [d1, d2] }
  | _ => none }
def listcmdKeepsRow : OpenClaim := { program := "ytgmmeeikjofefaagreatdoor", sum := "1f8a9558f07c56612a486a3718a567d81e712fe8fa41ef2424dbdf88d7047768", func := "covenant/covenantlaw19.ListcmdKeeps", spec := "listcmdKeeps", inPlace := ["internal/bytealg.abigen_runtime_cmpstring", "slices.overlaps[covenant/due.entry[string]]", "slices.overlaps[string]"], unfollowed := true, recurses := true, named := ["strconv.ErrSyntax", "strconv.ErrRange", "internal/strconv.uint64pow10", "math/bits.deBruijn32tab", "math/bits.deBruijn64tab"], apart := false, laid := [("math/bits.deBruijn32tab", laid_math_bits_deBruijn32tab), ("math/bits.deBruijn64tab", laid_math_bits_deBruijn64tab), ("internal/strconv.uint64pow10", laid_internal_strconv_uint64pow10), ("strconv.ErrRange", laid_strconv_ErrRange), ("strconv.ErrSyntax", laid_strconv_ErrSyntax)] }
def ListcmdKeepsSaid : Prop := listcmdKeepsRow.holds Tryz.pinned (OpenSpec.ofChange listcmdKeepsSpec)

/-- ITS FALSE NEIGHBOUR: 'it returns false'. Refute it at one input. -/
def listcmdKeepsWrong : ChangeSpec := { name := "listcmdKeeps", fn := fun _ => fun
  | [d1, d2] => { results := [.lit (.bool false)], args := [d1, d2] }
  | _ => none }
def ListcmdKeepsWrongFalsely : Prop := listcmdKeepsRow.holds Tryz.pinned (OpenSpec.ofChange listcmdKeepsWrong)

/-- 'covenantlaw19.ListcmdFinds': WHATEVER THE INPUT: true; the input reads as it did. -/
def listcmdFindsSpec : ChangeSpec := { name := "listcmdFinds", fn := fun _ => fun
  | [d1, d2] => { results := [.lit (.bool true)], args := [d1, d2] }
  | _ => none }
def listcmdFindsRow : OpenClaim := { program := "ytgmmeeikjofefaagreatdoor", sum := "1f8a9558f07c56612a486a3718a567d81e712fe8fa41ef2424dbdf88d7047768", func := "covenant/covenantlaw19.ListcmdFinds", spec := "listcmdFinds", inPlace := ["internal/bytealg.abigen_runtime_cmpstring", "slices.overlaps[covenant/due.entry[string]]", "slices.overlaps[string]"], unfollowed := true, recurses := true, named := ["strconv.ErrSyntax", "strconv.ErrRange", "internal/strconv.uint64pow10", "math/bits.deBruijn32tab", "math/bits.deBruijn64tab"], apart := false, laid := [("math/bits.deBruijn32tab", laid_math_bits_deBruijn32tab), ("math/bits.deBruijn64tab", laid_math_bits_deBruijn64tab), ("internal/strconv.uint64pow10", laid_internal_strconv_uint64pow10), ("strconv.ErrRange", laid_strconv_ErrRange), ("strconv.ErrSyntax", laid_strconv_ErrSyntax)] }
def ListcmdFindsSaid : Prop := listcmdFindsRow.holds Tryz.pinned (OpenSpec.ofChange listcmdFindsSpec)

/-- ITS FALSE NEIGHBOUR: 'it returns false'. Refute it at one input. -/
def listcmdFindsWrong : ChangeSpec := { name := "listcmdFinds", fn := fun _ => fun
  | [d1, d2] => { results := [.lit (.bool false)], args := [d1, d2] }
  | _ => none }
def ListcmdFindsWrongFalsely : Prop := listcmdFindsRow.holds Tryz.pinned (OpenSpec.ofChange listcmdFindsWrong)

/-- 'covenantlaw19.ListcmdRuns': WHATEVER THE INPUT: true; the input reads as it did. -/
def listcmdRunsSpec : ChangeSpec := { name := "listcmdRuns", fn := fun _ => fun
  | [d1, d2] => { results := [.lit (.bool true)], args := [d1, d2] }
  | _ => none }
def listcmdRunsRow : OpenClaim := { program := "ytgmmeeikjofefaagreatdoor", sum := "1f8a9558f07c56612a486a3718a567d81e712fe8fa41ef2424dbdf88d7047768", func := "covenant/covenantlaw19.ListcmdRuns", spec := "listcmdRuns", inPlace := ["slices.overlaps[covenant/due.entry[string]]", "internal/bytealg.abigen_runtime_cmpstring", "slices.overlaps[string]"], unfollowed := true, recurses := true, named := ["strconv.ErrSyntax", "strconv.ErrRange", "internal/strconv.uint64pow10", "math/bits.deBruijn32tab", "math/bits.deBruijn64tab"], apart := false, laid := [("math/bits.deBruijn32tab", laid_math_bits_deBruijn32tab), ("math/bits.deBruijn64tab", laid_math_bits_deBruijn64tab), ("internal/strconv.uint64pow10", laid_internal_strconv_uint64pow10), ("strconv.ErrRange", laid_strconv_ErrRange), ("strconv.ErrSyntax", laid_strconv_ErrSyntax)] }
def ListcmdRunsSaid : Prop := listcmdRunsRow.holds Tryz.pinned (OpenSpec.ofChange listcmdRunsSpec)

/-- ITS FALSE NEIGHBOUR: 'it returns false'. Refute it at one input. -/
def listcmdRunsWrong : ChangeSpec := { name := "listcmdRuns", fn := fun _ => fun
  | [d1, d2] => { results := [.lit (.bool false)], args := [d1, d2] }
  | _ => none }
def ListcmdRunsWrongFalsely : Prop := listcmdRunsRow.holds Tryz.pinned (OpenSpec.ofChange listcmdRunsWrong)

/-- 'covenantlaw19.ListcmdRefused': WHATEVER THE INPUT: true; the input reads as it did. -/
def listcmdRefusedSpec : ChangeSpec := { name := "listcmdRefused", fn := fun _ => fun
  | [d1, d2] => { results := [.lit (.bool true)], args := [d1, d2] }
  | _ => none }
def listcmdRefusedRow : OpenClaim := { program := "ytgmmeeikjofefaagreatdoor", sum := "1f8a9558f07c56612a486a3718a567d81e712fe8fa41ef2424dbdf88d7047768", func := "covenant/covenantlaw19.ListcmdRefused", spec := "listcmdRefused", inPlace := ["slices.overlaps[covenant/due.entry[string]]", "internal/bytealg.abigen_runtime_cmpstring", "slices.overlaps[string]"], unfollowed := true, recurses := true, named := ["strconv.ErrSyntax", "strconv.ErrRange", "internal/strconv.uint64pow10", "math/bits.deBruijn32tab", "math/bits.deBruijn64tab"], apart := false, laid := [("math/bits.deBruijn32tab", laid_math_bits_deBruijn32tab), ("math/bits.deBruijn64tab", laid_math_bits_deBruijn64tab), ("internal/strconv.uint64pow10", laid_internal_strconv_uint64pow10), ("strconv.ErrRange", laid_strconv_ErrRange), ("strconv.ErrSyntax", laid_strconv_ErrSyntax)] }
def ListcmdRefusedSaid : Prop := listcmdRefusedRow.holds Tryz.pinned (OpenSpec.ofChange listcmdRefusedSpec)

/-- ITS FALSE NEIGHBOUR: 'it returns false'. Refute it at one input. -/
def listcmdRefusedWrong : ChangeSpec := { name := "listcmdRefused", fn := fun _ => fun
  | [d1, d2] => { results := [.lit (.bool false)], args := [d1, d2] }
  | _ => none }
def ListcmdRefusedWrongFalsely : Prop := listcmdRefusedRow.holds Tryz.pinned (OpenSpec.ofChange listcmdRefusedWrong)

/- THE SECOND FORM. 'bulk': how many values and letters a reading holds, each counted each time it is reached (what is shared counts as often as it is met; a slice's spare places count too). A statement '..UptoSaid' is the law's where the arguments, and the package variables that the reading takes, are together of bulk at most 1048576: NARROWER than '..Said'. Prove '..Said' where nothing that the law and all that it calls make is longer than what came in: it says more and counts as full. Else prove '..UptoSaid'. A law counts once. -/
mutual
def uptoBulk {H : Type} : DataW H → Nat
  | .lit (.string bytes) => bytes.length + 1
  | .lit _ => 1
  | .nil => 1
  | .ptr d => uptoBulk d + 1
  | .slice elems spare => uptoBulkAll elems + uptoBulkAll spare + 1
  | .agg parts => uptoBulkAll parts + 1
  | .iface _ d => uptoBulk d + 1
  | .map entries => uptoBulkEntries entries + 1
  | .held _ => 1
def uptoBulkAll {H : Type} : List (DataW H) → Nat
  | [] => 0
  | d :: r => uptoBulk d + uptoBulkAll r
def uptoBulkEntries {H : Type} : List (Lit × DataW H) → Nat
  | [] => 0
  | x :: r => uptoBulkEntry x + uptoBulkEntries r
def uptoBulkEntry {H : Type} : Lit × DataW H → Nat
  | (.string bytes, d) => bytes.length + uptoBulk d + 1
  | (_, d) => uptoBulk d + 1
 end
def uptoSmall : (H : Type) → List (DataW H) → Bool := fun _ ds => decide (uptoBulkAll ds ≤ 1048576)
def OpenSpec.upto (s : _root_.Go.ChangeSpec) : _root_.Go.OpenSpec := { _root_.Go.OpenSpec.ofChange s with cond := some uptoSmall }

/-- 'covenantlaw19.ListcmdMoves', WHERE WHAT IT READS IS OF BULK AT MOST 1048576: true; the input reads as it did. -/
def listcmdMovesUptoRow : OpenClaim := { program := "ytgmmeeikjofefaagreatdoor", sum := "1f8a9558f07c56612a486a3718a567d81e712fe8fa41ef2424dbdf88d7047768", func := "covenant/covenantlaw19.ListcmdMoves", spec := "listcmdMoves", inPlace := ["internal/bytealg.abigen_runtime_cmpstring", "slices.overlaps[covenant/due.entry[string]]", "slices.overlaps[string]"], unfollowed := true, recurses := true, named := ["strconv.ErrSyntax", "strconv.ErrRange", "internal/strconv.uint64pow10", "math/bits.deBruijn32tab", "math/bits.deBruijn64tab"], apart := false, laid := [("math/bits.deBruijn32tab", laid_math_bits_deBruijn32tab), ("math/bits.deBruijn64tab", laid_math_bits_deBruijn64tab), ("internal/strconv.uint64pow10", laid_internal_strconv_uint64pow10), ("strconv.ErrRange", laid_strconv_ErrRange), ("strconv.ErrSyntax", laid_strconv_ErrSyntax)], narrowed := true }
def ListcmdMovesUptoSaid : Prop := listcmdMovesUptoRow.holds Tryz.pinned (OpenSpec.upto listcmdMovesSpec)

/-- 'covenantlaw19.ListcmdTurns', WHERE WHAT IT READS IS OF BULK AT MOST 1048576: true; the input reads as it did. -/
def listcmdTurnsUptoRow : OpenClaim := { program := "ytgmmeeikjofefaagreatdoor", sum := "1f8a9558f07c56612a486a3718a567d81e712fe8fa41ef2424dbdf88d7047768", func := "covenant/covenantlaw19.ListcmdTurns", spec := "listcmdTurns", inPlace := ["internal/bytealg.abigen_runtime_cmpstring", "slices.overlaps[covenant/due.entry[string]]", "slices.overlaps[string]"], unfollowed := true, recurses := true, named := ["strconv.ErrSyntax", "strconv.ErrRange", "internal/strconv.uint64pow10", "math/bits.deBruijn32tab", "math/bits.deBruijn64tab"], apart := false, laid := [("math/bits.deBruijn32tab", laid_math_bits_deBruijn32tab), ("math/bits.deBruijn64tab", laid_math_bits_deBruijn64tab), ("internal/strconv.uint64pow10", laid_internal_strconv_uint64pow10), ("strconv.ErrRange", laid_strconv_ErrRange), ("strconv.ErrSyntax", laid_strconv_ErrSyntax)], narrowed := true }
def ListcmdTurnsUptoSaid : Prop := listcmdTurnsUptoRow.holds Tryz.pinned (OpenSpec.upto listcmdTurnsSpec)

/-- 'covenantlaw19.ListcmdNames', WHERE WHAT IT READS IS OF BULK AT MOST 1048576: true; the input reads as it did. -/
def listcmdNamesUptoRow : OpenClaim := { program := "ytgmmeeikjofefaagreatdoor", sum := "1f8a9558f07c56612a486a3718a567d81e712fe8fa41ef2424dbdf88d7047768", func := "covenant/covenantlaw19.ListcmdNames", spec := "listcmdNames", inPlace := ["internal/bytealg.abigen_runtime_cmpstring", "slices.overlaps[covenant/due.entry[string]]", "slices.overlaps[string]"], unfollowed := true, recurses := true, named := ["strconv.ErrSyntax", "strconv.ErrRange", "internal/strconv.uint64pow10", "math/bits.deBruijn32tab", "math/bits.deBruijn64tab"], apart := false, laid := [("math/bits.deBruijn32tab", laid_math_bits_deBruijn32tab), ("math/bits.deBruijn64tab", laid_math_bits_deBruijn64tab), ("internal/strconv.uint64pow10", laid_internal_strconv_uint64pow10), ("strconv.ErrRange", laid_strconv_ErrRange), ("strconv.ErrSyntax", laid_strconv_ErrSyntax)], narrowed := true }
def ListcmdNamesUptoSaid : Prop := listcmdNamesUptoRow.holds Tryz.pinned (OpenSpec.upto listcmdNamesSpec)

/-- 'covenantlaw19.ListcmdKeeps', WHERE WHAT IT READS IS OF BULK AT MOST 1048576: true; the input reads as it did. -/
def listcmdKeepsUptoRow : OpenClaim := { program := "ytgmmeeikjofefaagreatdoor", sum := "1f8a9558f07c56612a486a3718a567d81e712fe8fa41ef2424dbdf88d7047768", func := "covenant/covenantlaw19.ListcmdKeeps", spec := "listcmdKeeps", inPlace := ["internal/bytealg.abigen_runtime_cmpstring", "slices.overlaps[covenant/due.entry[string]]", "slices.overlaps[string]"], unfollowed := true, recurses := true, named := ["strconv.ErrSyntax", "strconv.ErrRange", "internal/strconv.uint64pow10", "math/bits.deBruijn32tab", "math/bits.deBruijn64tab"], apart := false, laid := [("math/bits.deBruijn32tab", laid_math_bits_deBruijn32tab), ("math/bits.deBruijn64tab", laid_math_bits_deBruijn64tab), ("internal/strconv.uint64pow10", laid_internal_strconv_uint64pow10), ("strconv.ErrRange", laid_strconv_ErrRange), ("strconv.ErrSyntax", laid_strconv_ErrSyntax)], narrowed := true }
def ListcmdKeepsUptoSaid : Prop := listcmdKeepsUptoRow.holds Tryz.pinned (OpenSpec.upto listcmdKeepsSpec)

/-- 'covenantlaw19.ListcmdFinds', WHERE WHAT IT READS IS OF BULK AT MOST 1048576: true; the input reads as it did. -/
def listcmdFindsUptoRow : OpenClaim := { program := "ytgmmeeikjofefaagreatdoor", sum := "1f8a9558f07c56612a486a3718a567d81e712fe8fa41ef2424dbdf88d7047768", func := "covenant/covenantlaw19.ListcmdFinds", spec := "listcmdFinds", inPlace := ["internal/bytealg.abigen_runtime_cmpstring", "slices.overlaps[covenant/due.entry[string]]", "slices.overlaps[string]"], unfollowed := true, recurses := true, named := ["strconv.ErrSyntax", "strconv.ErrRange", "internal/strconv.uint64pow10", "math/bits.deBruijn32tab", "math/bits.deBruijn64tab"], apart := false, laid := [("math/bits.deBruijn32tab", laid_math_bits_deBruijn32tab), ("math/bits.deBruijn64tab", laid_math_bits_deBruijn64tab), ("internal/strconv.uint64pow10", laid_internal_strconv_uint64pow10), ("strconv.ErrRange", laid_strconv_ErrRange), ("strconv.ErrSyntax", laid_strconv_ErrSyntax)], narrowed := true }
def ListcmdFindsUptoSaid : Prop := listcmdFindsUptoRow.holds Tryz.pinned (OpenSpec.upto listcmdFindsSpec)

/-- 'covenantlaw19.ListcmdRuns', WHERE WHAT IT READS IS OF BULK AT MOST 1048576: true; the input reads as it did. -/
def listcmdRunsUptoRow : OpenClaim := { program := "ytgmmeeikjofefaagreatdoor", sum := "1f8a9558f07c56612a486a3718a567d81e712fe8fa41ef2424dbdf88d7047768", func := "covenant/covenantlaw19.ListcmdRuns", spec := "listcmdRuns", inPlace := ["slices.overlaps[covenant/due.entry[string]]", "internal/bytealg.abigen_runtime_cmpstring", "slices.overlaps[string]"], unfollowed := true, recurses := true, named := ["strconv.ErrSyntax", "strconv.ErrRange", "internal/strconv.uint64pow10", "math/bits.deBruijn32tab", "math/bits.deBruijn64tab"], apart := false, laid := [("math/bits.deBruijn32tab", laid_math_bits_deBruijn32tab), ("math/bits.deBruijn64tab", laid_math_bits_deBruijn64tab), ("internal/strconv.uint64pow10", laid_internal_strconv_uint64pow10), ("strconv.ErrRange", laid_strconv_ErrRange), ("strconv.ErrSyntax", laid_strconv_ErrSyntax)], narrowed := true }
def ListcmdRunsUptoSaid : Prop := listcmdRunsUptoRow.holds Tryz.pinned (OpenSpec.upto listcmdRunsSpec)

/-- 'covenantlaw19.ListcmdRefused', WHERE WHAT IT READS IS OF BULK AT MOST 1048576: true; the input reads as it did. -/
def listcmdRefusedUptoRow : OpenClaim := { program := "ytgmmeeikjofefaagreatdoor", sum := "1f8a9558f07c56612a486a3718a567d81e712fe8fa41ef2424dbdf88d7047768", func := "covenant/covenantlaw19.ListcmdRefused", spec := "listcmdRefused", inPlace := ["slices.overlaps[covenant/due.entry[string]]", "internal/bytealg.abigen_runtime_cmpstring", "slices.overlaps[string]"], unfollowed := true, recurses := true, named := ["strconv.ErrSyntax", "strconv.ErrRange", "internal/strconv.uint64pow10", "math/bits.deBruijn32tab", "math/bits.deBruijn64tab"], apart := false, laid := [("math/bits.deBruijn32tab", laid_math_bits_deBruijn32tab), ("math/bits.deBruijn64tab", laid_math_bits_deBruijn64tab), ("internal/strconv.uint64pow10", laid_internal_strconv_uint64pow10), ("strconv.ErrRange", laid_strconv_ErrRange), ("strconv.ErrSyntax", laid_strconv_ErrSyntax)], narrowed := true }
def ListcmdRefusedUptoSaid : Prop := listcmdRefusedUptoRow.holds Tryz.pinned (OpenSpec.upto listcmdRefusedSpec)

end Rows
end Go.Proofs.YtgmmeeikjofefaaGreatDoor
