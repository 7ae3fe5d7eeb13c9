/-
  No cell of these rows narrows 'for every input' (looked for: loops, veiled, ifaces, maps, wideKeys, modest, calm, conditions, laid).
  DERIVED. THE GIVEN ROWS OF THIS SEAT. 8 by the template 'for every input the law returns true; each argument reads behind the call as it read before'; 0 by the template 'total and deterministic' (their statements: YtgdgnpjgemcjgaaTotals.lean).
  GIVEN WITH THE SEED: the statements are not yours to turn. If you find one false, say at which input.
  Laid BY PROGRAM, IN A SANDBOX (cutbox-rows.mjs): the forced cells as the released guide's own fill.sh prints them over the translation 8a1e816f31e095cd… (all of the seat's roots in one cut). By AI agents, Wed Nov 11 2026. No macro, syntax, notation, axiom, sorry.
-/
import Derived.Test.YtgdgnpjgemcjgaaChecked
import GoSem.Claim
import GoSem.ClaimJoined
import GoSem.ClaimMapViews
import Derived.JoinedTies
import Derived.KernelRfl
namespace Go.Proofs.Ytgdgnpjgemcjgaa
/- THE CELL 'sum', in the pinned program and in every row, IS THE sha256 OF THE DUMP (.gsa) THAT YtgdgnpjgemcjgaaProg.lean LOADS. Nothing in Lean hashes anything: it is a label: what it is worth is what the hold of that sum in a sandbox is worth. -/
noncomputable def Try.pinned : Pinned := { name := "ytgdgnpjgemcjgaa", sum := "8a1e816f31e095cd792a9346a4f747538f6aba3220578c46b6e90639d8247cba", checked := Try.checked }
namespace Rows
def none {H : Type} : Left H := { results := [], args := [] }

/-- 'covenantlaw04.RequestWhole': WHATEVER THE INPUT: true; the input reads as it did. -/
def requestWholeSpec : ChangeSpec := { name := "requestWhole", fn := fun _ => fun
  | [d1, d2] => { results := [.lit (.bool true)], args := [d1, d2] }
  | _ => none }
def requestWholeRow : OpenClaim := { program := "ytgdgnpjgemcjgaa", sum := "8a1e816f31e095cd792a9346a4f747538f6aba3220578c46b6e90639d8247cba", func := "covenant/covenantlaw04.RequestWhole", spec := "requestWhole", inPlace := ["internal/abi.NoEscape"], unfollowed := true, recurses := true, apart := false }
def RequestWholeSaid : Prop := requestWholeRow.holds Try.pinned (OpenSpec.ofChange requestWholeSpec)

/-- ITS FALSE NEIGHBOUR: 'it returns false'. Refute it at one input. -/
def requestWholeWrong : ChangeSpec := { name := "requestWhole", fn := fun _ => fun
  | [d1, d2] => { results := [.lit (.bool false)], args := [d1, d2] }
  | _ => none }
def RequestWholeWrongFalsely : Prop := requestWholeRow.holds Try.pinned (OpenSpec.ofChange requestWholeWrong)

/-- 'covenantlaw04.RequestSplits': WHATEVER THE INPUT: true; the input reads as it did. -/
def requestSplitsSpec : ChangeSpec := { name := "requestSplits", fn := fun _ => fun
  | [d] => { results := [.lit (.bool true)], args := [d] }
  | _ => none }
def requestSplitsRow : OpenClaim := { program := "ytgdgnpjgemcjgaa", sum := "8a1e816f31e095cd792a9346a4f747538f6aba3220578c46b6e90639d8247cba", func := "covenant/covenantlaw04.RequestSplits", spec := "requestSplits", inPlace := ["internal/abi.NoEscape"], unfollowed := true, recurses := true, apart := false }
def RequestSplitsSaid : Prop := requestSplitsRow.holds Try.pinned (OpenSpec.ofChange requestSplitsSpec)

/-- ITS FALSE NEIGHBOUR: 'it returns false'. Refute it at one input. -/
def requestSplitsWrong : ChangeSpec := { name := "requestSplits", fn := fun _ => fun
  | [d] => { results := [.lit (.bool false)], args := [d] }
  | _ => none }
def RequestSplitsWrongFalsely : Prop := requestSplitsRow.holds Try.pinned (OpenSpec.ofChange requestSplitsWrong)

/-- 'covenantlaw04.RequestWrites': WHATEVER THE INPUT: true; the input reads as it did. -/
def requestWritesSpec : ChangeSpec := { name := "requestWrites", fn := fun _ => fun
  | [d] => { results := [.lit (.bool true)], args := [d] }
  | _ => none }
def requestWritesRow : OpenClaim := { program := "ytgdgnpjgemcjgaa", sum := "8a1e816f31e095cd792a9346a4f747538f6aba3220578c46b6e90639d8247cba", func := "covenant/covenantlaw04.RequestWrites", spec := "requestWrites", inPlace := ["internal/abi.NoEscape"], unfollowed := true, recurses := true, apart := false }
def RequestWritesSaid : Prop := requestWritesRow.holds Try.pinned (OpenSpec.ofChange requestWritesSpec)

/-- ITS FALSE NEIGHBOUR: 'it returns false'. Refute it at one input. -/
def requestWritesWrong : ChangeSpec := { name := "requestWrites", fn := fun _ => fun
  | [d] => { results := [.lit (.bool false)], args := [d] }
  | _ => none }
def RequestWritesWrongFalsely : Prop := requestWritesRow.holds Try.pinned (OpenSpec.ofChange requestWritesWrong)

/-- 'covenantlaw04.RequestSteps': WHATEVER THE INPUT: true; the input reads as it did. -/
def requestStepsSpec : ChangeSpec := { name := "requestSteps", fn := fun _ => fun
  | [d1, d2] => { results := [.lit (.bool true)], args := [d1, d2] }
  | _ => none }
def requestStepsRow : OpenClaim := { program := "ytgdgnpjgemcjgaa", sum := "8a1e816f31e095cd792a9346a4f747538f6aba3220578c46b6e90639d8247cba", func := "covenant/covenantlaw04.RequestSteps", spec := "requestSteps", inPlace := ["internal/abi.NoEscape"], unfollowed := true, recurses := true, apart := false }
def RequestStepsSaid : Prop := requestStepsRow.holds Try.pinned (OpenSpec.ofChange requestStepsSpec)

/-- ITS FALSE NEIGHBOUR: 'it returns false'. Refute it at one input. -/
def requestStepsWrong : ChangeSpec := { name := "requestSteps", fn := fun _ => fun
  | [d1, d2] => { results := [.lit (.bool false)], args := [d1, d2] }
  | _ => none }
def RequestStepsWrongFalsely : Prop := requestStepsRow.holds Try.pinned (OpenSpec.ofChange requestStepsWrong)

/-- 'covenantlaw04.RequestNobody': WHATEVER THE INPUT: true; the input reads as it did. -/
def requestNobodySpec : ChangeSpec := { name := "requestNobody", fn := fun _ => fun
  | [d] => { results := [.lit (.bool true)], args := [d] }
  | _ => none }
def requestNobodyRow : OpenClaim := { program := "ytgdgnpjgemcjgaa", sum := "8a1e816f31e095cd792a9346a4f747538f6aba3220578c46b6e90639d8247cba", func := "covenant/covenantlaw04.RequestNobody", spec := "requestNobody", inPlace := ["internal/abi.NoEscape"], unfollowed := true, recurses := true, apart := false }
def RequestNobodySaid : Prop := requestNobodyRow.holds Try.pinned (OpenSpec.ofChange requestNobodySpec)

/-- ITS FALSE NEIGHBOUR: 'it returns false'. Refute it at one input. -/
def requestNobodyWrong : ChangeSpec := { name := "requestNobody", fn := fun _ => fun
  | [d] => { results := [.lit (.bool false)], args := [d] }
  | _ => none }
def RequestNobodyWrongFalsely : Prop := requestNobodyRow.holds Try.pinned (OpenSpec.ofChange requestNobodyWrong)

/-- 'covenantlaw04.RequestBack': WHATEVER THE INPUT: true; the input reads as it did. -/
def requestBackSpec : ChangeSpec := { name := "requestBack", fn := fun _ => fun
  | [d1, d2] => { results := [.lit (.bool true)], args := [d1, d2] }
  | _ => none }
def requestBackRow : OpenClaim := { program := "ytgdgnpjgemcjgaa", sum := "8a1e816f31e095cd792a9346a4f747538f6aba3220578c46b6e90639d8247cba", func := "covenant/covenantlaw04.RequestBack", spec := "requestBack", inPlace := ["internal/abi.NoEscape"], unfollowed := true, recurses := true, apart := false }
def RequestBackSaid : Prop := requestBackRow.holds Try.pinned (OpenSpec.ofChange requestBackSpec)

/-- ITS FALSE NEIGHBOUR: 'it returns false'. Refute it at one input. -/
def requestBackWrong : ChangeSpec := { name := "requestBack", fn := fun _ => fun
  | [d1, d2] => { results := [.lit (.bool false)], args := [d1, d2] }
  | _ => none }
def RequestBackWrongFalsely : Prop := requestBackRow.holds Try.pinned (OpenSpec.ofChange requestBackWrong)

/-- 'covenantlaw04.RequestPieces': WHATEVER THE INPUT: true; the input reads as it did. -/
def requestPiecesSpec : ChangeSpec := { name := "requestPieces", fn := fun _ => fun
  | [d1, d2] => { results := [.lit (.bool true)], args := [d1, d2] }
  | _ => none }
def requestPiecesRow : OpenClaim := { program := "ytgdgnpjgemcjgaa", sum := "8a1e816f31e095cd792a9346a4f747538f6aba3220578c46b6e90639d8247cba", func := "covenant/covenantlaw04.RequestPieces", spec := "requestPieces", inPlace := ["internal/abi.NoEscape"], unfollowed := true, recurses := true, apart := false }
def RequestPiecesSaid : Prop := requestPiecesRow.holds Try.pinned (OpenSpec.ofChange requestPiecesSpec)

/-- ITS FALSE NEIGHBOUR: 'it returns false'. Refute it at one input. -/
def requestPiecesWrong : ChangeSpec := { name := "requestPieces", fn := fun _ => fun
  | [d1, d2] => { results := [.lit (.bool false)], args := [d1, d2] }
  | _ => none }
def RequestPiecesWrongFalsely : Prop := requestPiecesRow.holds Try.pinned (OpenSpec.ofChange requestPiecesWrong)

/-- 'covenantlaw04.RequestBegins': WHATEVER THE INPUT: true; the input reads as it did. -/
def requestBeginsSpec : ChangeSpec := { name := "requestBegins", fn := fun _ => fun
  | [d1, d2, d3] => { results := [.lit (.bool true)], args := [d1, d2, d3] }
  | _ => none }
def requestBeginsRow : OpenClaim := { program := "ytgdgnpjgemcjgaa", sum := "8a1e816f31e095cd792a9346a4f747538f6aba3220578c46b6e90639d8247cba", func := "covenant/covenantlaw04.RequestBegins", spec := "requestBegins", inPlace := ["internal/abi.NoEscape"], unfollowed := true, recurses := true, apart := false }
def RequestBeginsSaid : Prop := requestBeginsRow.holds Try.pinned (OpenSpec.ofChange requestBeginsSpec)

/-- ITS FALSE NEIGHBOUR: 'it returns false'. Refute it at one input. -/
def requestBeginsWrong : ChangeSpec := { name := "requestBegins", fn := fun _ => fun
  | [d1, d2, d3] => { results := [.lit (.bool false)], args := [d1, d2, d3] }
  | _ => none }
def RequestBeginsWrongFalsely : Prop := requestBeginsRow.holds Try.pinned (OpenSpec.ofChange requestBeginsWrong)

/- THE SECOND FORM. 'bulk': how many values and letters a reading holds, each counted each time it is reached (what is shared counts as often as it is met; a slice's spare places count too). A statement '..UptoSaid' is the law's where the arguments, and the package variables that the reading takes, are together of bulk at most 1048576: NARROWER than '..Said'. Prove '..Said' where nothing that the law and all that it calls make is longer than what came in: it says more and counts as full. Else prove '..UptoSaid'. A law counts once. -/
mutual
def uptoBulk {H : Type} : DataW H → Nat
  | .lit (.string bytes) => bytes.length + 1
  | .lit _ => 1
  | .nil => 1
  | .ptr d => uptoBulk d + 1
  | .slice elems spare => uptoBulkAll elems + uptoBulkAll spare + 1
  | .agg parts => uptoBulkAll parts + 1
  | .iface _ d => uptoBulk d + 1
  | .map entries => uptoBulkEntries entries + 1
  | .held _ => 1
def uptoBulkAll {H : Type} : List (DataW H) → Nat
  | [] => 0
  | d :: r => uptoBulk d + uptoBulkAll r
def uptoBulkEntries {H : Type} : List (Lit × DataW H) → Nat
  | [] => 0
  | x :: r => uptoBulkEntry x + uptoBulkEntries r
def uptoBulkEntry {H : Type} : Lit × DataW H → Nat
  | (.string bytes, d) => bytes.length + uptoBulk d + 1
  | (_, d) => uptoBulk d + 1
 end
def uptoSmall : (H : Type) → List (DataW H) → Bool := fun _ ds => decide (uptoBulkAll ds ≤ 1048576)
def OpenSpec.upto (s : _root_.Go.ChangeSpec) : _root_.Go.OpenSpec := { _root_.Go.OpenSpec.ofChange s with cond := some uptoSmall }

/-- 'covenantlaw04.RequestWhole', WHERE WHAT IT READS IS OF BULK AT MOST 1048576: true; the input reads as it did. -/
def requestWholeUptoRow : OpenClaim := { program := "ytgdgnpjgemcjgaa", sum := "8a1e816f31e095cd792a9346a4f747538f6aba3220578c46b6e90639d8247cba", func := "covenant/covenantlaw04.RequestWhole", spec := "requestWhole", inPlace := ["internal/abi.NoEscape"], unfollowed := true, recurses := true, apart := false, narrowed := true }
def RequestWholeUptoSaid : Prop := requestWholeUptoRow.holds Try.pinned (OpenSpec.upto requestWholeSpec)

/-- 'covenantlaw04.RequestSplits', WHERE WHAT IT READS IS OF BULK AT MOST 1048576: true; the input reads as it did. -/
def requestSplitsUptoRow : OpenClaim := { program := "ytgdgnpjgemcjgaa", sum := "8a1e816f31e095cd792a9346a4f747538f6aba3220578c46b6e90639d8247cba", func := "covenant/covenantlaw04.RequestSplits", spec := "requestSplits", inPlace := ["internal/abi.NoEscape"], unfollowed := true, recurses := true, apart := false, narrowed := true }
def RequestSplitsUptoSaid : Prop := requestSplitsUptoRow.holds Try.pinned (OpenSpec.upto requestSplitsSpec)

/-- 'covenantlaw04.RequestWrites', WHERE WHAT IT READS IS OF BULK AT MOST 1048576: true; the input reads as it did. -/
def requestWritesUptoRow : OpenClaim := { program := "ytgdgnpjgemcjgaa", sum := "8a1e816f31e095cd792a9346a4f747538f6aba3220578c46b6e90639d8247cba", func := "covenant/covenantlaw04.RequestWrites", spec := "requestWrites", inPlace := ["internal/abi.NoEscape"], unfollowed := true, recurses := true, apart := false, narrowed := true }
def RequestWritesUptoSaid : Prop := requestWritesUptoRow.holds Try.pinned (OpenSpec.upto requestWritesSpec)

/-- 'covenantlaw04.RequestSteps', WHERE WHAT IT READS IS OF BULK AT MOST 1048576: true; the input reads as it did. -/
def requestStepsUptoRow : OpenClaim := { program := "ytgdgnpjgemcjgaa", sum := "8a1e816f31e095cd792a9346a4f747538f6aba3220578c46b6e90639d8247cba", func := "covenant/covenantlaw04.RequestSteps", spec := "requestSteps", inPlace := ["internal/abi.NoEscape"], unfollowed := true, recurses := true, apart := false, narrowed := true }
def RequestStepsUptoSaid : Prop := requestStepsUptoRow.holds Try.pinned (OpenSpec.upto requestStepsSpec)

/-- 'covenantlaw04.RequestNobody', WHERE WHAT IT READS IS OF BULK AT MOST 1048576: true; the input reads as it did. -/
def requestNobodyUptoRow : OpenClaim := { program := "ytgdgnpjgemcjgaa", sum := "8a1e816f31e095cd792a9346a4f747538f6aba3220578c46b6e90639d8247cba", func := "covenant/covenantlaw04.RequestNobody", spec := "requestNobody", inPlace := ["internal/abi.NoEscape"], unfollowed := true, recurses := true, apart := false, narrowed := true }
def RequestNobodyUptoSaid : Prop := requestNobodyUptoRow.holds Try.pinned (OpenSpec.upto requestNobodySpec)

/-- 'covenantlaw04.RequestBack', WHERE WHAT IT READS IS OF BULK AT MOST 1048576: true; the input reads as it did. -/
def requestBackUptoRow : OpenClaim := { program := "ytgdgnpjgemcjgaa", sum := "8a1e816f31e095cd792a9346a4f747538f6aba3220578c46b6e90639d8247cba", func := "covenant/covenantlaw04.RequestBack", spec := "requestBack", inPlace := ["internal/abi.NoEscape"], unfollowed := true, recurses := true, apart := false, narrowed := true }
def RequestBackUptoSaid : Prop := requestBackUptoRow.holds Try.pinned (OpenSpec.upto requestBackSpec)

/-- 'covenantlaw04.RequestPieces', WHERE WHAT IT READS IS OF BULK AT MOST 1048576: true; the input reads as it did. -/
def requestPiecesUptoRow : OpenClaim := { program := "ytgdgnpjgemcjgaa", sum := "8a1e816f31e095cd792a9346a4f747538f6aba3220578c46b6e90639d8247cba", func := "covenant/covenantlaw04.RequestPieces", spec := "requestPieces", inPlace := ["internal/abi.NoEscape"], unfollowed := true, recurses := true, apart := false, narrowed := true }
def RequestPiecesUptoSaid : Prop := requestPiecesUptoRow.holds Try.pinned (OpenSpec.upto requestPiecesSpec)

/-- 'covenantlaw04.RequestBegins', WHERE WHAT IT READS IS OF BULK AT MOST 1048576: true; the input reads as it did. -/
def requestBeginsUptoRow : OpenClaim := { program := "ytgdgnpjgemcjgaa", sum := "8a1e816f31e095cd792a9346a4f747538f6aba3220578c46b6e90639d8247cba", func := "covenant/covenantlaw04.RequestBegins", spec := "requestBegins", inPlace := ["internal/abi.NoEscape"], unfollowed := true, recurses := true, apart := false, narrowed := true }
def RequestBeginsUptoSaid : Prop := requestBeginsUptoRow.holds Try.pinned (OpenSpec.upto requestBeginsSpec)

end Rows
end Go.Proofs.Ytgdgnpjgemcjgaa
