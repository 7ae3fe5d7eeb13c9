/-
  No cell of these rows narrows 'for every input' (looked for: loops, veiled, ifaces, maps, wideKeys, modest, calm, conditions, laid).
  DERIVED. THE GIVEN ROWS OF THIS SEAT. 4 by the template 'for every input the law returns true; each argument reads behind the call as it read before'; 0 by the template 'total and deterministic' (their statements: YtlgboamedjoidaaTotals.lean).
  GIVEN WITH THE SEED: the statements are not yours to turn. If you find one false, say at which input.
  Laid BY PROGRAM, IN A SANDBOX (cutbox-rows.mjs): the forced cells as the released guide's own fill.sh prints them over the translation 238f1dfc8df7959d… (all of the seat's roots in one cut). By AI agents, Wed Nov 11 2026. No macro, syntax, notation, axiom, sorry.
-/
import Derived.Test.YtlgboamedjoidaaChecked
import GoSem.Claim
import GoSem.ClaimJoined
import GoSem.ClaimMapViews
import Derived.JoinedTies
import Derived.KernelRfl
namespace Go.Proofs.Ytlgboamedjoidaa
/- THE CELL 'sum', in the pinned program and in every row, IS THE sha256 OF THE DUMP (.gsa) THAT YtlgboamedjoidaaProg.lean LOADS. Nothing in Lean hashes anything: it is a label: what it is worth is what the hold of that sum in a sandbox is worth. -/
noncomputable def Try.pinned : Pinned := { name := "ytlgboamedjoidaa", sum := "238f1dfc8df7959d5ec261c67f5e7f5769201ff0cec42fce08b3833ef0177a15", checked := Try.checked }
namespace Rows
def none {H : Type} : Left H := { results := [], args := [] }

/-- 'covenantlaw06.PipeFull': WHATEVER THE INPUT: true; the input reads as it did. -/
def pipeFullSpec : ChangeSpec := { name := "pipeFull", fn := fun _ => fun
  | [d] => { results := [.lit (.bool true)], args := [d] }
  | _ => none }
def pipeFullRow : OpenClaim := { program := "ytlgboamedjoidaa", sum := "238f1dfc8df7959d5ec261c67f5e7f5769201ff0cec42fce08b3833ef0177a15", func := "covenant/covenantlaw06.PipeFull", spec := "pipeFull", apart := false }
def PipeFullSaid : Prop := pipeFullRow.holds Try.pinned (OpenSpec.ofChange pipeFullSpec)

/-- ITS FALSE NEIGHBOUR: 'it returns false'. Refute it at one input. -/
def pipeFullWrong : ChangeSpec := { name := "pipeFull", fn := fun _ => fun
  | [d] => { results := [.lit (.bool false)], args := [d] }
  | _ => none }
def PipeFullWrongFalsely : Prop := pipeFullRow.holds Try.pinned (OpenSpec.ofChange pipeFullWrong)

/-- 'covenantlaw06.PipePlays': WHATEVER THE INPUT: true; the input reads as it did. -/
def pipePlaysSpec : ChangeSpec := { name := "pipePlays", fn := fun _ => fun
  | [d1, d2] => { results := [.lit (.bool true)], args := [d1, d2] }
  | _ => none }
def pipePlaysRow : OpenClaim := { program := "ytlgboamedjoidaa", sum := "238f1dfc8df7959d5ec261c67f5e7f5769201ff0cec42fce08b3833ef0177a15", func := "covenant/covenantlaw06.PipePlays", spec := "pipePlays", apart := false }
def PipePlaysSaid : Prop := pipePlaysRow.holds Try.pinned (OpenSpec.ofChange pipePlaysSpec)

/-- ITS FALSE NEIGHBOUR: 'it returns false'. Refute it at one input. -/
def pipePlaysWrong : ChangeSpec := { name := "pipePlays", fn := fun _ => fun
  | [d1, d2] => { results := [.lit (.bool false)], args := [d1, d2] }
  | _ => none }
def PipePlaysWrongFalsely : Prop := pipePlaysRow.holds Try.pinned (OpenSpec.ofChange pipePlaysWrong)

/-- 'covenantlaw06.PipeBegins': WHATEVER THE INPUT: true; the input reads as it did. -/
def pipeBeginsSpec : ChangeSpec := { name := "pipeBegins", fn := fun _ => fun
  | [d1, d2] => { results := [.lit (.bool true)], args := [d1, d2] }
  | _ => none }
def pipeBeginsRow : OpenClaim := { program := "ytlgboamedjoidaa", sum := "238f1dfc8df7959d5ec261c67f5e7f5769201ff0cec42fce08b3833ef0177a15", func := "covenant/covenantlaw06.PipeBegins", spec := "pipeBegins", apart := false }
def PipeBeginsSaid : Prop := pipeBeginsRow.holds Try.pinned (OpenSpec.ofChange pipeBeginsSpec)

/-- ITS FALSE NEIGHBOUR: 'it returns false'. Refute it at one input. -/
def pipeBeginsWrong : ChangeSpec := { name := "pipeBegins", fn := fun _ => fun
  | [d1, d2] => { results := [.lit (.bool false)], args := [d1, d2] }
  | _ => none }
def PipeBeginsWrongFalsely : Prop := pipeBeginsRow.holds Try.pinned (OpenSpec.ofChange pipeBeginsWrong)

/-- 'covenantlaw06.PipeApart': WHATEVER THE INPUT: true; the input reads as it did. -/
def pipeApartSpec : ChangeSpec := { name := "pipeApart", fn := fun _ => fun
  | [d1, d2] => { results := [.lit (.bool true)], args := [d1, d2] }
  | _ => none }
def pipeApartRow : OpenClaim := { program := "ytlgboamedjoidaa", sum := "238f1dfc8df7959d5ec261c67f5e7f5769201ff0cec42fce08b3833ef0177a15", func := "covenant/covenantlaw06.PipeApart", spec := "pipeApart", apart := false }
def PipeApartSaid : Prop := pipeApartRow.holds Try.pinned (OpenSpec.ofChange pipeApartSpec)

/-- ITS FALSE NEIGHBOUR: 'it returns false'. Refute it at one input. -/
def pipeApartWrong : ChangeSpec := { name := "pipeApart", fn := fun _ => fun
  | [d1, d2] => { results := [.lit (.bool false)], args := [d1, d2] }
  | _ => none }
def PipeApartWrongFalsely : Prop := pipeApartRow.holds Try.pinned (OpenSpec.ofChange pipeApartWrong)

/- THE SECOND FORM. 'bulk': how many values and letters a reading holds, each counted each time it is reached (what is shared counts as often as it is met; a slice's spare places count too). A statement '..UptoSaid' is the law's where the arguments, and the package variables that the reading takes, are together of bulk at most 1048576: NARROWER than '..Said'. Prove '..Said' where nothing that the law and all that it calls make is longer than what came in: it says more and counts as full. Else prove '..UptoSaid'. A law counts once. -/
mutual
def uptoBulk {H : Type} : DataW H → Nat
  | .lit (.string bytes) => bytes.length + 1
  | .lit _ => 1
  | .nil => 1
  | .ptr d => uptoBulk d + 1
  | .slice elems spare => uptoBulkAll elems + uptoBulkAll spare + 1
  | .agg parts => uptoBulkAll parts + 1
  | .iface _ d => uptoBulk d + 1
  | .map entries => uptoBulkEntries entries + 1
  | .held _ => 1
def uptoBulkAll {H : Type} : List (DataW H) → Nat
  | [] => 0
  | d :: r => uptoBulk d + uptoBulkAll r
def uptoBulkEntries {H : Type} : List (Lit × DataW H) → Nat
  | [] => 0
  | x :: r => uptoBulkEntry x + uptoBulkEntries r
def uptoBulkEntry {H : Type} : Lit × DataW H → Nat
  | (.string bytes, d) => bytes.length + uptoBulk d + 1
  | (_, d) => uptoBulk d + 1
 end
def uptoSmall : (H : Type) → List (DataW H) → Bool := fun _ ds => decide (uptoBulkAll ds ≤ 1048576)
def OpenSpec.upto (s : _root_.Go.ChangeSpec) : _root_.Go.OpenSpec := { _root_.Go.OpenSpec.ofChange s with cond := some uptoSmall }

/-- 'covenantlaw06.PipeFull', WHERE WHAT IT READS IS OF BULK AT MOST 1048576: true; the input reads as it did. -/
def pipeFullUptoRow : OpenClaim := { program := "ytlgboamedjoidaa", sum := "238f1dfc8df7959d5ec261c67f5e7f5769201ff0cec42fce08b3833ef0177a15", func := "covenant/covenantlaw06.PipeFull", spec := "pipeFull", apart := false, narrowed := true }
def PipeFullUptoSaid : Prop := pipeFullUptoRow.holds Try.pinned (OpenSpec.upto pipeFullSpec)

/-- 'covenantlaw06.PipePlays', WHERE WHAT IT READS IS OF BULK AT MOST 1048576: true; the input reads as it did. -/
def pipePlaysUptoRow : OpenClaim := { program := "ytlgboamedjoidaa", sum := "238f1dfc8df7959d5ec261c67f5e7f5769201ff0cec42fce08b3833ef0177a15", func := "covenant/covenantlaw06.PipePlays", spec := "pipePlays", apart := false, narrowed := true }
def PipePlaysUptoSaid : Prop := pipePlaysUptoRow.holds Try.pinned (OpenSpec.upto pipePlaysSpec)

/-- 'covenantlaw06.PipeBegins', WHERE WHAT IT READS IS OF BULK AT MOST 1048576: true; the input reads as it did. -/
def pipeBeginsUptoRow : OpenClaim := { program := "ytlgboamedjoidaa", sum := "238f1dfc8df7959d5ec261c67f5e7f5769201ff0cec42fce08b3833ef0177a15", func := "covenant/covenantlaw06.PipeBegins", spec := "pipeBegins", apart := false, narrowed := true }
def PipeBeginsUptoSaid : Prop := pipeBeginsUptoRow.holds Try.pinned (OpenSpec.upto pipeBeginsSpec)

/-- 'covenantlaw06.PipeApart', WHERE WHAT IT READS IS OF BULK AT MOST 1048576: true; the input reads as it did. -/
def pipeApartUptoRow : OpenClaim := { program := "ytlgboamedjoidaa", sum := "238f1dfc8df7959d5ec261c67f5e7f5769201ff0cec42fce08b3833ef0177a15", func := "covenant/covenantlaw06.PipeApart", spec := "pipeApart", apart := false, narrowed := true }
def PipeApartUptoSaid : Prop := pipeApartUptoRow.holds Try.pinned (OpenSpec.upto pipeApartSpec)

end Rows
end Go.Proofs.Ytlgboamedjoidaa
