/-
  NARROWER THAN 'FOR EVERY INPUT', by the rows' own cells (each row's printed sentence says how): SetcmdStores: laid · SetcmdMoves: laid · SetcmdScans: laid · SetcmdNames: laid · SetcmdKeeps: laid · SetcmdPops: laid.
  DERIVED. THE GIVEN ROWS OF THIS SEAT. 6 by the template 'for every input the law returns true; each argument reads behind the call as it read before'; 0 by the template 'total and deterministic' (their statements: YtoganolkgmilaaaGreatDoorTotals.lean).
  GIVEN WITH THE SEED: the statements are not yours to turn. If you find one false, say at which input.
  Laid BY PROGRAM, IN A SANDBOX (cutbox-rows.mjs): the forced cells as the released guide's own fill.sh prints them over the translation 00674ede2bf07892… (all of the seat's roots in one cut). By AI agents, Wed Nov 11 2026. No macro, syntax, notation, axiom, sorry.
-/
import Derived.Test.YtoganolkgmilaaaGreatDoorChecked
import GoSem.Claim
import GoSem.ClaimJoined
import GoSem.ClaimMapViews
import Derived.JoinedTies
import Derived.KernelRfl
namespace Go.Proofs.YtoganolkgmilaaaGreatDoor
/- THE CELL 'sum', in the pinned program and in every row, IS THE sha256 OF THE DUMP (.gsa) THAT YtoganolkgmilaaaGreatDoorProg.lean LOADS. Nothing in Lean hashes anything: it is a label: what it is worth is what the hold of that sum in a sandbox is worth. -/
noncomputable def Tryz.pinned : Pinned := { name := "ytoganolkgmilaaagreatdoor", sum := "00674ede2bf07892e42462ad0a1f98a65c378a5987997fd92cbbb6e259ca1104", checked := Tryz.checked }
namespace Rows
def none {H : Type} : Left H := { results := [], args := [] }

/- WHAT THE LISTED PACKAGE-LEVEL VARIABLES READ AS WHEN THE CALL BEGINS. Each datum BY PROGRAM (the guide's laid-datum.mjs) off the statement by which the dump's own 'gosem.cut.vars' lays the variable. In a bare row this is a premise. The card (YtoganolkgmilaaaGreatDoorCards.lean) ties it to the program's text. -/
def laid_math_bits_deBruijn32tab {H : Type} : DataW H := .agg [.lit (.int .u8 0), .lit (.int .u8 1), .lit (.int .u8 28), .lit (.int .u8 2), .lit (.int .u8 29), .lit (.int .u8 14), .lit (.int .u8 24), .lit (.int .u8 3), .lit (.int .u8 30), .lit (.int .u8 22), .lit (.int .u8 20), .lit (.int .u8 15), .lit (.int .u8 25), .lit (.int .u8 17), .lit (.int .u8 4), .lit (.int .u8 8), .lit (.int .u8 31), .lit (.int .u8 27), .lit (.int .u8 13), .lit (.int .u8 23), .lit (.int .u8 21), .lit (.int .u8 19), .lit (.int .u8 16), .lit (.int .u8 7), .lit (.int .u8 26), .lit (.int .u8 12), .lit (.int .u8 18), .lit (.int .u8 6), .lit (.int .u8 11), .lit (.int .u8 5), .lit (.int .u8 10), .lit (.int .u8 9)]
def laid_math_bits_deBruijn64tab {H : Type} : DataW H := .agg [.lit (.int .u8 0), .lit (.int .u8 1), .lit (.int .u8 56), .lit (.int .u8 2), .lit (.int .u8 57), .lit (.int .u8 49), .lit (.int .u8 28), .lit (.int .u8 3), .lit (.int .u8 61), .lit (.int .u8 58), .lit (.int .u8 42), .lit (.int .u8 50), .lit (.int .u8 38), .lit (.int .u8 29), .lit (.int .u8 17), .lit (.int .u8 4), .lit (.int .u8 62), .lit (.int .u8 47), .lit (.int .u8 59), .lit (.int .u8 36), .lit (.int .u8 45), .lit (.int .u8 43), .lit (.int .u8 51), .lit (.int .u8 22), .lit (.int .u8 53), .lit (.int .u8 39), .lit (.int .u8 33), .lit (.int .u8 30), .lit (.int .u8 24), .lit (.int .u8 18), .lit (.int .u8 12), .lit (.int .u8 5), .lit (.int .u8 63), .lit (.int .u8 55), .lit (.int .u8 48), .lit (.int .u8 27), .lit (.int .u8 60), .lit (.int .u8 41), .lit (.int .u8 37), .lit (.int .u8 16), .lit (.int .u8 46), .lit (.int .u8 35), .lit (.int .u8 44), .lit (.int .u8 21), .lit (.int .u8 52), .lit (.int .u8 32), .lit (.int .u8 23), .lit (.int .u8 11), .lit (.int .u8 54), .lit (.int .u8 26), .lit (.int .u8 40), .lit (.int .u8 15), .lit (.int .u8 34), .lit (.int .u8 20), .lit (.int .u8 31), .lit (.int .u8 10), .lit (.int .u8 25), .lit (.int .u8 14), .lit (.int .u8 19), .lit (.int .u8 9), .lit (.int .u8 13), .lit (.int .u8 8), .lit (.int .u8 7), .lit (.int .u8 6)]
def laid_internal_strconv_uint64pow10 {H : Type} : DataW H := .agg [.lit (.int .u64 1), .lit (.int .u64 10), .lit (.int .u64 100), .lit (.int .u64 1000), .lit (.int .u64 10000), .lit (.int .u64 100000), .lit (.int .u64 1000000), .lit (.int .u64 10000000), .lit (.int .u64 100000000), .lit (.int .u64 1000000000), .lit (.int .u64 10000000000), .lit (.int .u64 100000000000), .lit (.int .u64 1000000000000), .lit (.int .u64 10000000000000), .lit (.int .u64 100000000000000), .lit (.int .u64 1000000000000000), .lit (.int .u64 10000000000000000), .lit (.int .u64 100000000000000000), .lit (.int .u64 1000000000000000000), .lit (.int .u64 10000000000000000000)]
def laid_strconv_ErrRange {H : Type} : DataW H := .iface "*errors.errorString" (.ptr (.agg [.lit (.string [118, 97, 108, 117, 101, 32, 111, 117, 116, 32, 111, 102, 32, 114, 97, 110, 103, 101])]))
def laid_strconv_ErrSyntax {H : Type} : DataW H := .iface "*errors.errorString" (.ptr (.agg [.lit (.string [105, 110, 118, 97, 108, 105, 100, 32, 115, 121, 110, 116, 97, 120])]))

/-- 'covenantlaw21.SetcmdStores': WHATEVER THE INPUT: true; the input reads as it did. -/
def setcmdStoresSpec : ChangeSpec := { name := "setcmdStores", fn := fun _ => fun
  | [d1, d2, d3] => { results := [.lit (.bool true)], args := [d1, d2, d3] }
  | _ => none }
def setcmdStoresRow : OpenClaim := { program := "ytoganolkgmilaaagreatdoor", sum := "00674ede2bf07892e42462ad0a1f98a65c378a5987997fd92cbbb6e259ca1104", func := "covenant/covenantlaw21.SetcmdStores", spec := "setcmdStores", inPlace := ["internal/bytealg.abigen_runtime_cmpstring", "slices.overlaps[covenant/due.entry[string]]"], unfollowed := true, recurses := true, named := ["strconv.ErrSyntax", "strconv.ErrRange", "internal/strconv.uint64pow10", "math/bits.deBruijn32tab", "math/bits.deBruijn64tab"], apart := false, laid := [("math/bits.deBruijn32tab", laid_math_bits_deBruijn32tab), ("math/bits.deBruijn64tab", laid_math_bits_deBruijn64tab), ("internal/strconv.uint64pow10", laid_internal_strconv_uint64pow10), ("strconv.ErrRange", laid_strconv_ErrRange), ("strconv.ErrSyntax", laid_strconv_ErrSyntax)] }
def SetcmdStoresSaid : Prop := setcmdStoresRow.holds Tryz.pinned (OpenSpec.ofChange setcmdStoresSpec)

/-- ITS FALSE NEIGHBOUR: 'it returns false'. Refute it at one input. -/
def setcmdStoresWrong : ChangeSpec := { name := "setcmdStores", fn := fun _ => fun
  | [d1, d2, d3] => { results := [.lit (.bool false)], args := [d1, d2, d3] }
  | _ => none }
def SetcmdStoresWrongFalsely : Prop := setcmdStoresRow.holds Tryz.pinned (OpenSpec.ofChange setcmdStoresWrong)

/-- 'covenantlaw21.SetcmdMoves': WHATEVER THE INPUT: true; the input reads as it did. -/
def setcmdMovesSpec : ChangeSpec := { name := "setcmdMoves", fn := fun _ => fun
  | [d1, d2, d3] => { results := [.lit (.bool true)], args := [d1, d2, d3] }
  | _ => none }
def setcmdMovesRow : OpenClaim := { program := "ytoganolkgmilaaagreatdoor", sum := "00674ede2bf07892e42462ad0a1f98a65c378a5987997fd92cbbb6e259ca1104", func := "covenant/covenantlaw21.SetcmdMoves", spec := "setcmdMoves", inPlace := ["internal/bytealg.abigen_runtime_cmpstring", "slices.overlaps[covenant/due.entry[string]]"], unfollowed := true, recurses := true, named := ["strconv.ErrSyntax", "strconv.ErrRange", "internal/strconv.uint64pow10", "math/bits.deBruijn32tab", "math/bits.deBruijn64tab"], apart := false, laid := [("math/bits.deBruijn32tab", laid_math_bits_deBruijn32tab), ("math/bits.deBruijn64tab", laid_math_bits_deBruijn64tab), ("internal/strconv.uint64pow10", laid_internal_strconv_uint64pow10), ("strconv.ErrRange", laid_strconv_ErrRange), ("strconv.ErrSyntax", laid_strconv_ErrSyntax)] }
def SetcmdMovesSaid : Prop := setcmdMovesRow.holds Tryz.pinned (OpenSpec.ofChange setcmdMovesSpec)

/-- ITS FALSE NEIGHBOUR: 'it returns false'. Refute it at one input. -/
def setcmdMovesWrong : ChangeSpec := { name := "setcmdMoves", fn := fun _ => fun
  | [d1, d2, d3] => { results := [.lit (.bool false)], args := [d1, d2, d3] }
  | _ => none }
def SetcmdMovesWrongFalsely : Prop := setcmdMovesRow.holds Tryz.pinned (OpenSpec.ofChange setcmdMovesWrong)

/-- 'covenantlaw21.SetcmdScans': WHATEVER THE INPUT: true; the input reads as it did. -/
def setcmdScansSpec : ChangeSpec := { name := "setcmdScans", fn := fun _ => fun
  | [d1, d2, d3] => { results := [.lit (.bool true)], args := [d1, d2, d3] }
  | _ => none }
def setcmdScansRow : OpenClaim := { program := "ytoganolkgmilaaagreatdoor", sum := "00674ede2bf07892e42462ad0a1f98a65c378a5987997fd92cbbb6e259ca1104", func := "covenant/covenantlaw21.SetcmdScans", spec := "setcmdScans", inPlace := ["internal/bytealg.abigen_runtime_cmpstring", "slices.overlaps[covenant/due.entry[string]]"], unfollowed := true, recurses := true, named := ["strconv.ErrSyntax", "strconv.ErrRange", "internal/strconv.uint64pow10", "math/bits.deBruijn32tab", "math/bits.deBruijn64tab"], apart := false, laid := [("math/bits.deBruijn32tab", laid_math_bits_deBruijn32tab), ("math/bits.deBruijn64tab", laid_math_bits_deBruijn64tab), ("internal/strconv.uint64pow10", laid_internal_strconv_uint64pow10), ("strconv.ErrRange", laid_strconv_ErrRange), ("strconv.ErrSyntax", laid_strconv_ErrSyntax)] }
def SetcmdScansSaid : Prop := setcmdScansRow.holds Tryz.pinned (OpenSpec.ofChange setcmdScansSpec)

/-- ITS FALSE NEIGHBOUR: 'it returns false'. Refute it at one input. -/
def setcmdScansWrong : ChangeSpec := { name := "setcmdScans", fn := fun _ => fun
  | [d1, d2, d3] => { results := [.lit (.bool false)], args := [d1, d2, d3] }
  | _ => none }
def SetcmdScansWrongFalsely : Prop := setcmdScansRow.holds Tryz.pinned (OpenSpec.ofChange setcmdScansWrong)

/-- 'covenantlaw21.SetcmdNames': WHATEVER THE INPUT: true; the input reads as it did. -/
def setcmdNamesSpec : ChangeSpec := { name := "setcmdNames", fn := fun _ => fun
  | [d1, d2] => { results := [.lit (.bool true)], args := [d1, d2] }
  | _ => none }
def setcmdNamesRow : OpenClaim := { program := "ytoganolkgmilaaagreatdoor", sum := "00674ede2bf07892e42462ad0a1f98a65c378a5987997fd92cbbb6e259ca1104", func := "covenant/covenantlaw21.SetcmdNames", spec := "setcmdNames", inPlace := ["internal/bytealg.abigen_runtime_cmpstring", "slices.overlaps[covenant/due.entry[string]]"], unfollowed := true, recurses := true, named := ["strconv.ErrSyntax", "strconv.ErrRange", "internal/strconv.uint64pow10", "math/bits.deBruijn32tab", "math/bits.deBruijn64tab"], apart := false, laid := [("math/bits.deBruijn32tab", laid_math_bits_deBruijn32tab), ("math/bits.deBruijn64tab", laid_math_bits_deBruijn64tab), ("internal/strconv.uint64pow10", laid_internal_strconv_uint64pow10), ("strconv.ErrRange", laid_strconv_ErrRange), ("strconv.ErrSyntax", laid_strconv_ErrSyntax)] }
def SetcmdNamesSaid : Prop := setcmdNamesRow.holds Tryz.pinned (OpenSpec.ofChange setcmdNamesSpec)

/-- ITS FALSE NEIGHBOUR: 'it returns false'. Refute it at one input. -/
def setcmdNamesWrong : ChangeSpec := { name := "setcmdNames", fn := fun _ => fun
  | [d1, d2] => { results := [.lit (.bool false)], args := [d1, d2] }
  | _ => none }
def SetcmdNamesWrongFalsely : Prop := setcmdNamesRow.holds Tryz.pinned (OpenSpec.ofChange setcmdNamesWrong)

/-- 'covenantlaw21.SetcmdKeeps': WHATEVER THE INPUT: true; the input reads as it did. -/
def setcmdKeepsSpec : ChangeSpec := { name := "setcmdKeeps", fn := fun _ => fun
  | [d1, d2] => { results := [.lit (.bool true)], args := [d1, d2] }
  | _ => none }
def setcmdKeepsRow : OpenClaim := { program := "ytoganolkgmilaaagreatdoor", sum := "00674ede2bf07892e42462ad0a1f98a65c378a5987997fd92cbbb6e259ca1104", func := "covenant/covenantlaw21.SetcmdKeeps", spec := "setcmdKeeps", inPlace := ["internal/bytealg.abigen_runtime_cmpstring", "slices.overlaps[covenant/due.entry[string]]"], unfollowed := true, recurses := true, named := ["strconv.ErrSyntax", "strconv.ErrRange", "internal/strconv.uint64pow10", "math/bits.deBruijn32tab", "math/bits.deBruijn64tab"], apart := false, laid := [("math/bits.deBruijn32tab", laid_math_bits_deBruijn32tab), ("math/bits.deBruijn64tab", laid_math_bits_deBruijn64tab), ("internal/strconv.uint64pow10", laid_internal_strconv_uint64pow10), ("strconv.ErrRange", laid_strconv_ErrRange), ("strconv.ErrSyntax", laid_strconv_ErrSyntax)] }
def SetcmdKeepsSaid : Prop := setcmdKeepsRow.holds Tryz.pinned (OpenSpec.ofChange setcmdKeepsSpec)

/-- ITS FALSE NEIGHBOUR: 'it returns false'. Refute it at one input. -/
def setcmdKeepsWrong : ChangeSpec := { name := "setcmdKeeps", fn := fun _ => fun
  | [d1, d2] => { results := [.lit (.bool false)], args := [d1, d2] }
  | _ => none }
def SetcmdKeepsWrongFalsely : Prop := setcmdKeepsRow.holds Tryz.pinned (OpenSpec.ofChange setcmdKeepsWrong)

/-- 'covenantlaw21.SetcmdPops': WHATEVER THE INPUT: true; the input reads as it did. -/
def setcmdPopsSpec : ChangeSpec := { name := "setcmdPops", fn := fun _ => fun
  | [d1, d2] => { results := [.lit (.bool true)], args := [d1, d2] }
  | _ => none }
def setcmdPopsRow : OpenClaim := { program := "ytoganolkgmilaaagreatdoor", sum := "00674ede2bf07892e42462ad0a1f98a65c378a5987997fd92cbbb6e259ca1104", func := "covenant/covenantlaw21.SetcmdPops", spec := "setcmdPops", inPlace := ["internal/bytealg.abigen_runtime_cmpstring", "slices.overlaps[covenant/due.entry[string]]"], unfollowed := true, recurses := true, named := ["strconv.ErrSyntax", "strconv.ErrRange", "internal/strconv.uint64pow10", "math/bits.deBruijn32tab", "math/bits.deBruijn64tab"], apart := false, laid := [("math/bits.deBruijn32tab", laid_math_bits_deBruijn32tab), ("math/bits.deBruijn64tab", laid_math_bits_deBruijn64tab), ("internal/strconv.uint64pow10", laid_internal_strconv_uint64pow10), ("strconv.ErrRange", laid_strconv_ErrRange), ("strconv.ErrSyntax", laid_strconv_ErrSyntax)] }
def SetcmdPopsSaid : Prop := setcmdPopsRow.holds Tryz.pinned (OpenSpec.ofChange setcmdPopsSpec)

/-- ITS FALSE NEIGHBOUR: 'it returns false'. Refute it at one input. -/
def setcmdPopsWrong : ChangeSpec := { name := "setcmdPops", fn := fun _ => fun
  | [d1, d2] => { results := [.lit (.bool false)], args := [d1, d2] }
  | _ => none }
def SetcmdPopsWrongFalsely : Prop := setcmdPopsRow.holds Tryz.pinned (OpenSpec.ofChange setcmdPopsWrong)

/- THE SECOND FORM. 'bulk': how many values and letters a reading holds, each counted each time it is reached (what is shared counts as often as it is met; a slice's spare places count too). A statement '..UptoSaid' is the law's where the arguments, and the package variables that the reading takes, are together of bulk at most 1048576: NARROWER than '..Said'. Prove '..Said' where nothing that the law and all that it calls make is longer than what came in: it says more and counts as full. Else prove '..UptoSaid'. A law counts once. -/
mutual
def uptoBulk {H : Type} : DataW H → Nat
  | .lit (.string bytes) => bytes.length + 1
  | .lit _ => 1
  | .nil => 1
  | .ptr d => uptoBulk d + 1
  | .slice elems spare => uptoBulkAll elems + uptoBulkAll spare + 1
  | .agg parts => uptoBulkAll parts + 1
  | .iface _ d => uptoBulk d + 1
  | .map entries => uptoBulkEntries entries + 1
  | .held _ => 1
def uptoBulkAll {H : Type} : List (DataW H) → Nat
  | [] => 0
  | d :: r => uptoBulk d + uptoBulkAll r
def uptoBulkEntries {H : Type} : List (Lit × DataW H) → Nat
  | [] => 0
  | x :: r => uptoBulkEntry x + uptoBulkEntries r
def uptoBulkEntry {H : Type} : Lit × DataW H → Nat
  | (.string bytes, d) => bytes.length + uptoBulk d + 1
  | (_, d) => uptoBulk d + 1
 end
def uptoSmall : (H : Type) → List (DataW H) → Bool := fun _ ds => decide (uptoBulkAll ds ≤ 1048576)
def OpenSpec.upto (s : _root_.Go.ChangeSpec) : _root_.Go.OpenSpec := { _root_.Go.OpenSpec.ofChange s with cond := some uptoSmall }

/-- 'covenantlaw21.SetcmdStores', WHERE WHAT IT READS IS OF BULK AT MOST 1048576: true; the input reads as it did. -/
def setcmdStoresUptoRow : OpenClaim := { program := "ytoganolkgmilaaagreatdoor", sum := "00674ede2bf07892e42462ad0a1f98a65c378a5987997fd92cbbb6e259ca1104", func := "covenant/covenantlaw21.SetcmdStores", spec := "setcmdStores", inPlace := ["internal/bytealg.abigen_runtime_cmpstring", "slices.overlaps[covenant/due.entry[string]]"], unfollowed := true, recurses := true, named := ["strconv.ErrSyntax", "strconv.ErrRange", "internal/strconv.uint64pow10", "math/bits.deBruijn32tab", "math/bits.deBruijn64tab"], apart := false, laid := [("math/bits.deBruijn32tab", laid_math_bits_deBruijn32tab), ("math/bits.deBruijn64tab", laid_math_bits_deBruijn64tab), ("internal/strconv.uint64pow10", laid_internal_strconv_uint64pow10), ("strconv.ErrRange", laid_strconv_ErrRange), ("strconv.ErrSyntax", laid_strconv_ErrSyntax)], narrowed := true }
def SetcmdStoresUptoSaid : Prop := setcmdStoresUptoRow.holds Tryz.pinned (OpenSpec.upto setcmdStoresSpec)

/-- 'covenantlaw21.SetcmdMoves', WHERE WHAT IT READS IS OF BULK AT MOST 1048576: true; the input reads as it did. -/
def setcmdMovesUptoRow : OpenClaim := { program := "ytoganolkgmilaaagreatdoor", sum := "00674ede2bf07892e42462ad0a1f98a65c378a5987997fd92cbbb6e259ca1104", func := "covenant/covenantlaw21.SetcmdMoves", spec := "setcmdMoves", inPlace := ["internal/bytealg.abigen_runtime_cmpstring", "slices.overlaps[covenant/due.entry[string]]"], unfollowed := true, recurses := true, named := ["strconv.ErrSyntax", "strconv.ErrRange", "internal/strconv.uint64pow10", "math/bits.deBruijn32tab", "math/bits.deBruijn64tab"], apart := false, laid := [("math/bits.deBruijn32tab", laid_math_bits_deBruijn32tab), ("math/bits.deBruijn64tab", laid_math_bits_deBruijn64tab), ("internal/strconv.uint64pow10", laid_internal_strconv_uint64pow10), ("strconv.ErrRange", laid_strconv_ErrRange), ("strconv.ErrSyntax", laid_strconv_ErrSyntax)], narrowed := true }
def SetcmdMovesUptoSaid : Prop := setcmdMovesUptoRow.holds Tryz.pinned (OpenSpec.upto setcmdMovesSpec)

/-- 'covenantlaw21.SetcmdScans', WHERE WHAT IT READS IS OF BULK AT MOST 1048576: true; the input reads as it did. -/
def setcmdScansUptoRow : OpenClaim := { program := "ytoganolkgmilaaagreatdoor", sum := "00674ede2bf07892e42462ad0a1f98a65c378a5987997fd92cbbb6e259ca1104", func := "covenant/covenantlaw21.SetcmdScans", spec := "setcmdScans", inPlace := ["internal/bytealg.abigen_runtime_cmpstring", "slices.overlaps[covenant/due.entry[string]]"], unfollowed := true, recurses := true, named := ["strconv.ErrSyntax", "strconv.ErrRange", "internal/strconv.uint64pow10", "math/bits.deBruijn32tab", "math/bits.deBruijn64tab"], apart := false, laid := [("math/bits.deBruijn32tab", laid_math_bits_deBruijn32tab), ("math/bits.deBruijn64tab", laid_math_bits_deBruijn64tab), ("internal/strconv.uint64pow10", laid_internal_strconv_uint64pow10), ("strconv.ErrRange", laid_strconv_ErrRange), ("strconv.ErrSyntax", laid_strconv_ErrSyntax)], narrowed := true }
def SetcmdScansUptoSaid : Prop := setcmdScansUptoRow.holds Tryz.pinned (OpenSpec.upto setcmdScansSpec)

/-- 'covenantlaw21.SetcmdNames', WHERE WHAT IT READS IS OF BULK AT MOST 1048576: true; the input reads as it did. -/
def setcmdNamesUptoRow : OpenClaim := { program := "ytoganolkgmilaaagreatdoor", sum := "00674ede2bf07892e42462ad0a1f98a65c378a5987997fd92cbbb6e259ca1104", func := "covenant/covenantlaw21.SetcmdNames", spec := "setcmdNames", inPlace := ["internal/bytealg.abigen_runtime_cmpstring", "slices.overlaps[covenant/due.entry[string]]"], unfollowed := true, recurses := true, named := ["strconv.ErrSyntax", "strconv.ErrRange", "internal/strconv.uint64pow10", "math/bits.deBruijn32tab", "math/bits.deBruijn64tab"], apart := false, laid := [("math/bits.deBruijn32tab", laid_math_bits_deBruijn32tab), ("math/bits.deBruijn64tab", laid_math_bits_deBruijn64tab), ("internal/strconv.uint64pow10", laid_internal_strconv_uint64pow10), ("strconv.ErrRange", laid_strconv_ErrRange), ("strconv.ErrSyntax", laid_strconv_ErrSyntax)], narrowed := true }
def SetcmdNamesUptoSaid : Prop := setcmdNamesUptoRow.holds Tryz.pinned (OpenSpec.upto setcmdNamesSpec)

/-- 'covenantlaw21.SetcmdKeeps', WHERE WHAT IT READS IS OF BULK AT MOST 1048576: true; the input reads as it did. -/
def setcmdKeepsUptoRow : OpenClaim := { program := "ytoganolkgmilaaagreatdoor", sum := "00674ede2bf07892e42462ad0a1f98a65c378a5987997fd92cbbb6e259ca1104", func := "covenant/covenantlaw21.SetcmdKeeps", spec := "setcmdKeeps", inPlace := ["internal/bytealg.abigen_runtime_cmpstring", "slices.overlaps[covenant/due.entry[string]]"], unfollowed := true, recurses := true, named := ["strconv.ErrSyntax", "strconv.ErrRange", "internal/strconv.uint64pow10", "math/bits.deBruijn32tab", "math/bits.deBruijn64tab"], apart := false, laid := [("math/bits.deBruijn32tab", laid_math_bits_deBruijn32tab), ("math/bits.deBruijn64tab", laid_math_bits_deBruijn64tab), ("internal/strconv.uint64pow10", laid_internal_strconv_uint64pow10), ("strconv.ErrRange", laid_strconv_ErrRange), ("strconv.ErrSyntax", laid_strconv_ErrSyntax)], narrowed := true }
def SetcmdKeepsUptoSaid : Prop := setcmdKeepsUptoRow.holds Tryz.pinned (OpenSpec.upto setcmdKeepsSpec)

/-- 'covenantlaw21.SetcmdPops', WHERE WHAT IT READS IS OF BULK AT MOST 1048576: true; the input reads as it did. -/
def setcmdPopsUptoRow : OpenClaim := { program := "ytoganolkgmilaaagreatdoor", sum := "00674ede2bf07892e42462ad0a1f98a65c378a5987997fd92cbbb6e259ca1104", func := "covenant/covenantlaw21.SetcmdPops", spec := "setcmdPops", inPlace := ["internal/bytealg.abigen_runtime_cmpstring", "slices.overlaps[covenant/due.entry[string]]"], unfollowed := true, recurses := true, named := ["strconv.ErrSyntax", "strconv.ErrRange", "internal/strconv.uint64pow10", "math/bits.deBruijn32tab", "math/bits.deBruijn64tab"], apart := false, laid := [("math/bits.deBruijn32tab", laid_math_bits_deBruijn32tab), ("math/bits.deBruijn64tab", laid_math_bits_deBruijn64tab), ("internal/strconv.uint64pow10", laid_internal_strconv_uint64pow10), ("strconv.ErrRange", laid_strconv_ErrRange), ("strconv.ErrSyntax", laid_strconv_ErrSyntax)], narrowed := true }
def SetcmdPopsUptoSaid : Prop := setcmdPopsUptoRow.holds Tryz.pinned (OpenSpec.upto setcmdPopsSpec)

end Rows
end Go.Proofs.YtoganolkgmilaaaGreatDoor
