/-
  No cell of these rows narrows 'for every input' (looked for: loops, veiled, ifaces, maps, wideKeys, modest, calm, conditions, laid).
  DERIVED. THE GIVEN ROWS OF THIS SEAT. 11 by the template 'for every input the law returns true; each argument reads behind the call as it read before'; 0 by the template 'total and deterministic' (their statements: YtegdgjnpfifofaaTotals.lean).
  GIVEN WITH THE SEED: the statements are not yours to turn. If you find one false, say at which input.
  Laid BY PROGRAM, IN A SANDBOX (cutbox-rows.mjs): the forced cells as the released guide's own fill.sh prints them over the translation 8eadd52f231f413f… (all of the seat's roots in one cut). By AI agents, Wed Nov 11 2026. No macro, syntax, notation, axiom, sorry.
-/
import Derived.Test.YtegdgjnpfifofaaChecked
import GoSem.Claim
import GoSem.ClaimJoined
import GoSem.ClaimMapViews
import Derived.JoinedTies
import Derived.KernelRfl
namespace Go.Proofs.Ytegdgjnpfifofaa
/- THE CELL 'sum', in the pinned program and in every row, IS THE sha256 OF THE DUMP (.gsa) THAT YtegdgjnpfifofaaProg.lean LOADS. Nothing in Lean hashes anything: it is a label: what it is worth is what the hold of that sum in a sandbox is worth. -/
noncomputable def Try.pinned : Pinned := { name := "ytegdgjnpfifofaa", sum := "8eadd52f231f413f5c4c9032d60cf378dc50abe05f90d4268a23b692e5debd20", checked := Try.checked }
namespace Rows
def none {H : Type} : Left H := { results := [], args := [] }

/-- 'laws.FnExactCircuitOK': WHATEVER THE INPUT: true; the input reads as it did. -/
def fnExactCircuitOKSpec : ChangeSpec := { name := "fnExactCircuitOK", fn := fun _ => fun
  | [d] => { results := [.lit (.bool true)], args := [d] }
  | _ => none }
def fnExactCircuitOKRow : OpenClaim := { program := "ytegdgjnpfifofaa", sum := "8eadd52f231f413f5c4c9032d60cf378dc50abe05f90d4268a23b692e5debd20", func := "loop.example/g00348/laws.FnExactCircuitOK", spec := "fnExactCircuitOK", apart := false }
def FnExactCircuitOKSaid : Prop := fnExactCircuitOKRow.holds Try.pinned (OpenSpec.ofChange fnExactCircuitOKSpec)

/-- ITS FALSE NEIGHBOUR: 'it returns false'. Refute it at one input. -/
def fnExactCircuitOKWrong : ChangeSpec := { name := "fnExactCircuitOK", fn := fun _ => fun
  | [d] => { results := [.lit (.bool false)], args := [d] }
  | _ => none }
def FnExactCircuitOKWrongFalsely : Prop := fnExactCircuitOKRow.holds Try.pinned (OpenSpec.ofChange fnExactCircuitOKWrong)

/-- 'laws.FnExactSystemOK': WHATEVER THE INPUT: true; the input reads as it did. -/
def fnExactSystemOKSpec : ChangeSpec := { name := "fnExactSystemOK", fn := fun _ => fun
  | [d] => { results := [.lit (.bool true)], args := [d] }
  | _ => none }
def fnExactSystemOKRow : OpenClaim := { program := "ytegdgjnpfifofaa", sum := "8eadd52f231f413f5c4c9032d60cf378dc50abe05f90d4268a23b692e5debd20", func := "loop.example/g00348/laws.FnExactSystemOK", spec := "fnExactSystemOK", apart := false }
def FnExactSystemOKSaid : Prop := fnExactSystemOKRow.holds Try.pinned (OpenSpec.ofChange fnExactSystemOKSpec)

/-- ITS FALSE NEIGHBOUR: 'it returns false'. Refute it at one input. -/
def fnExactSystemOKWrong : ChangeSpec := { name := "fnExactSystemOK", fn := fun _ => fun
  | [d] => { results := [.lit (.bool false)], args := [d] }
  | _ => none }
def FnExactSystemOKWrongFalsely : Prop := fnExactSystemOKRow.holds Try.pinned (OpenSpec.ofChange fnExactSystemOKWrong)

/-- 'laws.FnExactCountOf': WHATEVER THE INPUT: true; the input reads as it did. -/
def fnExactCountOfSpec : ChangeSpec := { name := "fnExactCountOf", fn := fun _ => fun
  | [d1, d2] => { results := [.lit (.bool true)], args := [d1, d2] }
  | _ => none }
def fnExactCountOfRow : OpenClaim := { program := "ytegdgjnpfifofaa", sum := "8eadd52f231f413f5c4c9032d60cf378dc50abe05f90d4268a23b692e5debd20", func := "loop.example/g00348/laws.FnExactCountOf", spec := "fnExactCountOf", apart := false }
def FnExactCountOfSaid : Prop := fnExactCountOfRow.holds Try.pinned (OpenSpec.ofChange fnExactCountOfSpec)

/-- ITS FALSE NEIGHBOUR: 'it returns false'. Refute it at one input. -/
def fnExactCountOfWrong : ChangeSpec := { name := "fnExactCountOf", fn := fun _ => fun
  | [d1, d2] => { results := [.lit (.bool false)], args := [d1, d2] }
  | _ => none }
def FnExactCountOfWrongFalsely : Prop := fnExactCountOfRow.holds Try.pinned (OpenSpec.ofChange fnExactCountOfWrong)

/-- 'laws.FnExactMulMatrix': WHATEVER THE INPUT: true; the input reads as it did. -/
def fnExactMulMatrixSpec : ChangeSpec := { name := "fnExactMulMatrix", fn := fun _ => fun
  | [d1, d2, d3] => { results := [.lit (.bool true)], args := [d1, d2, d3] }
  | _ => none }
def fnExactMulMatrixRow : OpenClaim := { program := "ytegdgjnpfifofaa", sum := "8eadd52f231f413f5c4c9032d60cf378dc50abe05f90d4268a23b692e5debd20", func := "loop.example/g00348/laws.FnExactMulMatrix", spec := "fnExactMulMatrix", unfollowed := true, recurses := true, apart := false }
def FnExactMulMatrixSaid : Prop := fnExactMulMatrixRow.holds Try.pinned (OpenSpec.ofChange fnExactMulMatrixSpec)

/-- ITS FALSE NEIGHBOUR: 'it returns false'. Refute it at one input. -/
def fnExactMulMatrixWrong : ChangeSpec := { name := "fnExactMulMatrix", fn := fun _ => fun
  | [d1, d2, d3] => { results := [.lit (.bool false)], args := [d1, d2, d3] }
  | _ => none }
def FnExactMulMatrixWrongFalsely : Prop := fnExactMulMatrixRow.holds Try.pinned (OpenSpec.ofChange fnExactMulMatrixWrong)

/-- 'laws.FnExactMatrixAt': WHATEVER THE INPUT: true; the input reads as it did. -/
def fnExactMatrixAtSpec : ChangeSpec := { name := "fnExactMatrixAt", fn := fun _ => fun
  | [d1, d2, d3] => { results := [.lit (.bool true)], args := [d1, d2, d3] }
  | _ => none }
def fnExactMatrixAtRow : OpenClaim := { program := "ytegdgjnpfifofaa", sum := "8eadd52f231f413f5c4c9032d60cf378dc50abe05f90d4268a23b692e5debd20", func := "loop.example/g00348/laws.FnExactMatrixAt", spec := "fnExactMatrixAt", unfollowed := true, recurses := true, apart := false }
def FnExactMatrixAtSaid : Prop := fnExactMatrixAtRow.holds Try.pinned (OpenSpec.ofChange fnExactMatrixAtSpec)

/-- ITS FALSE NEIGHBOUR: 'it returns false'. Refute it at one input. -/
def fnExactMatrixAtWrong : ChangeSpec := { name := "fnExactMatrixAt", fn := fun _ => fun
  | [d1, d2, d3] => { results := [.lit (.bool false)], args := [d1, d2, d3] }
  | _ => none }
def FnExactMatrixAtWrongFalsely : Prop := fnExactMatrixAtRow.holds Try.pinned (OpenSpec.ofChange fnExactMatrixAtWrong)

/-- 'laws.FnExactVectorOf': WHATEVER THE INPUT: true; the input reads as it did. -/
def fnExactVectorOfSpec : ChangeSpec := { name := "fnExactVectorOf", fn := fun _ => fun
  | [d1, d2, d3] => { results := [.lit (.bool true)], args := [d1, d2, d3] }
  | _ => none }
def fnExactVectorOfRow : OpenClaim := { program := "ytegdgjnpfifofaa", sum := "8eadd52f231f413f5c4c9032d60cf378dc50abe05f90d4268a23b692e5debd20", func := "loop.example/g00348/laws.FnExactVectorOf", spec := "fnExactVectorOf", unfollowed := true, recurses := true, apart := false }
def FnExactVectorOfSaid : Prop := fnExactVectorOfRow.holds Try.pinned (OpenSpec.ofChange fnExactVectorOfSpec)

/-- ITS FALSE NEIGHBOUR: 'it returns false'. Refute it at one input. -/
def fnExactVectorOfWrong : ChangeSpec := { name := "fnExactVectorOf", fn := fun _ => fun
  | [d1, d2, d3] => { results := [.lit (.bool false)], args := [d1, d2, d3] }
  | _ => none }
def FnExactVectorOfWrongFalsely : Prop := fnExactVectorOfRow.holds Try.pinned (OpenSpec.ofChange fnExactVectorOfWrong)

/-- 'laws.FnExactSatisfied': WHATEVER THE INPUT: true; the input reads as it did. -/
def fnExactSatisfiedSpec : ChangeSpec := { name := "fnExactSatisfied", fn := fun _ => fun
  | [d1, d2] => { results := [.lit (.bool true)], args := [d1, d2] }
  | _ => none }
def fnExactSatisfiedRow : OpenClaim := { program := "ytegdgjnpfifofaa", sum := "8eadd52f231f413f5c4c9032d60cf378dc50abe05f90d4268a23b692e5debd20", func := "loop.example/g00348/laws.FnExactSatisfied", spec := "fnExactSatisfied", unfollowed := true, recurses := true, apart := false }
def FnExactSatisfiedSaid : Prop := fnExactSatisfiedRow.holds Try.pinned (OpenSpec.ofChange fnExactSatisfiedSpec)

/-- ITS FALSE NEIGHBOUR: 'it returns false'. Refute it at one input. -/
def fnExactSatisfiedWrong : ChangeSpec := { name := "fnExactSatisfied", fn := fun _ => fun
  | [d1, d2] => { results := [.lit (.bool false)], args := [d1, d2] }
  | _ => none }
def FnExactSatisfiedWrongFalsely : Prop := fnExactSatisfiedRow.holds Try.pinned (OpenSpec.ofChange fnExactSatisfiedWrong)

/-- 'laws.FnExactFailedRow': WHATEVER THE INPUT: true; the input reads as it did. -/
def fnExactFailedRowSpec : ChangeSpec := { name := "fnExactFailedRow", fn := fun _ => fun
  | [d1, d2] => { results := [.lit (.bool true)], args := [d1, d2] }
  | _ => none }
def fnExactFailedRowRow : OpenClaim := { program := "ytegdgjnpfifofaa", sum := "8eadd52f231f413f5c4c9032d60cf378dc50abe05f90d4268a23b692e5debd20", func := "loop.example/g00348/laws.FnExactFailedRow", spec := "fnExactFailedRow", unfollowed := true, recurses := true, apart := false }
def FnExactFailedRowSaid : Prop := fnExactFailedRowRow.holds Try.pinned (OpenSpec.ofChange fnExactFailedRowSpec)

/-- ITS FALSE NEIGHBOUR: 'it returns false'. Refute it at one input. -/
def fnExactFailedRowWrong : ChangeSpec := { name := "fnExactFailedRow", fn := fun _ => fun
  | [d1, d2] => { results := [.lit (.bool false)], args := [d1, d2] }
  | _ => none }
def FnExactFailedRowWrongFalsely : Prop := fnExactFailedRowRow.holds Try.pinned (OpenSpec.ofChange fnExactFailedRowWrong)

/-- 'laws.FnSystem': WHATEVER THE INPUT: true; the input reads as it did. -/
def fnSystemSpec : ChangeSpec := { name := "fnSystem", fn := fun _ => fun
  | [d1, d2] => { results := [.lit (.bool true)], args := [d1, d2] }
  | _ => none }
def fnSystemRow : OpenClaim := { program := "ytegdgjnpfifofaa", sum := "8eadd52f231f413f5c4c9032d60cf378dc50abe05f90d4268a23b692e5debd20", func := "loop.example/g00348/laws.FnSystem", spec := "fnSystem", unfollowed := true, recurses := true, apart := false }
def FnSystemSaid : Prop := fnSystemRow.holds Try.pinned (OpenSpec.ofChange fnSystemSpec)

/-- ITS FALSE NEIGHBOUR: 'it returns false'. Refute it at one input. -/
def fnSystemWrong : ChangeSpec := { name := "fnSystem", fn := fun _ => fun
  | [d1, d2] => { results := [.lit (.bool false)], args := [d1, d2] }
  | _ => none }
def FnSystemWrongFalsely : Prop := fnSystemRow.holds Try.pinned (OpenSpec.ofChange fnSystemWrong)

/-- 'laws.FnExactRunCircuit': WHATEVER THE INPUT: true; the input reads as it did. -/
def fnExactRunCircuitSpec : ChangeSpec := { name := "fnExactRunCircuit", fn := fun _ => fun
  | [d1, d2, d3] => { results := [.lit (.bool true)], args := [d1, d2, d3] }
  | _ => none }
def fnExactRunCircuitRow : OpenClaim := { program := "ytegdgjnpfifofaa", sum := "8eadd52f231f413f5c4c9032d60cf378dc50abe05f90d4268a23b692e5debd20", func := "loop.example/g00348/laws.FnExactRunCircuit", spec := "fnExactRunCircuit", unfollowed := true, recurses := true, apart := false }
def FnExactRunCircuitSaid : Prop := fnExactRunCircuitRow.holds Try.pinned (OpenSpec.ofChange fnExactRunCircuitSpec)

/-- ITS FALSE NEIGHBOUR: 'it returns false'. Refute it at one input. -/
def fnExactRunCircuitWrong : ChangeSpec := { name := "fnExactRunCircuit", fn := fun _ => fun
  | [d1, d2, d3] => { results := [.lit (.bool false)], args := [d1, d2, d3] }
  | _ => none }
def FnExactRunCircuitWrongFalsely : Prop := fnExactRunCircuitRow.holds Try.pinned (OpenSpec.ofChange fnExactRunCircuitWrong)

/-- 'laws.FnExactWitnessOf': WHATEVER THE INPUT: true; the input reads as it did. -/
def fnExactWitnessOfSpec : ChangeSpec := { name := "fnExactWitnessOf", fn := fun _ => fun
  | [d1, d2, d3] => { results := [.lit (.bool true)], args := [d1, d2, d3] }
  | _ => none }
def fnExactWitnessOfRow : OpenClaim := { program := "ytegdgjnpfifofaa", sum := "8eadd52f231f413f5c4c9032d60cf378dc50abe05f90d4268a23b692e5debd20", func := "loop.example/g00348/laws.FnExactWitnessOf", spec := "fnExactWitnessOf", unfollowed := true, recurses := true, apart := false }
def FnExactWitnessOfSaid : Prop := fnExactWitnessOfRow.holds Try.pinned (OpenSpec.ofChange fnExactWitnessOfSpec)

/-- ITS FALSE NEIGHBOUR: 'it returns false'. Refute it at one input. -/
def fnExactWitnessOfWrong : ChangeSpec := { name := "fnExactWitnessOf", fn := fun _ => fun
  | [d1, d2, d3] => { results := [.lit (.bool false)], args := [d1, d2, d3] }
  | _ => none }
def FnExactWitnessOfWrongFalsely : Prop := fnExactWitnessOfRow.holds Try.pinned (OpenSpec.ofChange fnExactWitnessOfWrong)

/- THE SECOND FORM. 'bulk': how many values and letters a reading holds, each counted each time it is reached (what is shared counts as often as it is met; a slice's spare places count too). A statement '..UptoSaid' is the law's where the arguments, and the package variables that the reading takes, are together of bulk at most 1048576: NARROWER than '..Said'. Prove '..Said' where nothing that the law and all that it calls make is longer than what came in: it says more and counts as full. Else prove '..UptoSaid'. A law counts once. -/
mutual
def uptoBulk {H : Type} : DataW H → Nat
  | .lit (.string bytes) => bytes.length + 1
  | .lit _ => 1
  | .nil => 1
  | .ptr d => uptoBulk d + 1
  | .slice elems spare => uptoBulkAll elems + uptoBulkAll spare + 1
  | .agg parts => uptoBulkAll parts + 1
  | .iface _ d => uptoBulk d + 1
  | .map entries => uptoBulkEntries entries + 1
  | .held _ => 1
def uptoBulkAll {H : Type} : List (DataW H) → Nat
  | [] => 0
  | d :: r => uptoBulk d + uptoBulkAll r
def uptoBulkEntries {H : Type} : List (Lit × DataW H) → Nat
  | [] => 0
  | x :: r => uptoBulkEntry x + uptoBulkEntries r
def uptoBulkEntry {H : Type} : Lit × DataW H → Nat
  | (.string bytes, d) => bytes.length + uptoBulk d + 1
  | (_, d) => uptoBulk d + 1
 end
def uptoSmall : (H : Type) → List (DataW H) → Bool := fun _ ds => decide (uptoBulkAll ds ≤ 1048576)
def OpenSpec.upto (s : _root_.Go.ChangeSpec) : _root_.Go.OpenSpec := { _root_.Go.OpenSpec.ofChange s with cond := some uptoSmall }

/-- 'laws.FnExactCircuitOK', WHERE WHAT IT READS IS OF BULK AT MOST 1048576: true; the input reads as it did. -/
def fnExactCircuitOKUptoRow : OpenClaim := { program := "ytegdgjnpfifofaa", sum := "8eadd52f231f413f5c4c9032d60cf378dc50abe05f90d4268a23b692e5debd20", func := "loop.example/g00348/laws.FnExactCircuitOK", spec := "fnExactCircuitOK", apart := false, narrowed := true }
def FnExactCircuitOKUptoSaid : Prop := fnExactCircuitOKUptoRow.holds Try.pinned (OpenSpec.upto fnExactCircuitOKSpec)

/-- 'laws.FnExactSystemOK', WHERE WHAT IT READS IS OF BULK AT MOST 1048576: true; the input reads as it did. -/
def fnExactSystemOKUptoRow : OpenClaim := { program := "ytegdgjnpfifofaa", sum := "8eadd52f231f413f5c4c9032d60cf378dc50abe05f90d4268a23b692e5debd20", func := "loop.example/g00348/laws.FnExactSystemOK", spec := "fnExactSystemOK", apart := false, narrowed := true }
def FnExactSystemOKUptoSaid : Prop := fnExactSystemOKUptoRow.holds Try.pinned (OpenSpec.upto fnExactSystemOKSpec)

/-- 'laws.FnExactCountOf', WHERE WHAT IT READS IS OF BULK AT MOST 1048576: true; the input reads as it did. -/
def fnExactCountOfUptoRow : OpenClaim := { program := "ytegdgjnpfifofaa", sum := "8eadd52f231f413f5c4c9032d60cf378dc50abe05f90d4268a23b692e5debd20", func := "loop.example/g00348/laws.FnExactCountOf", spec := "fnExactCountOf", apart := false, narrowed := true }
def FnExactCountOfUptoSaid : Prop := fnExactCountOfUptoRow.holds Try.pinned (OpenSpec.upto fnExactCountOfSpec)

/-- 'laws.FnExactMulMatrix', WHERE WHAT IT READS IS OF BULK AT MOST 1048576: true; the input reads as it did. -/
def fnExactMulMatrixUptoRow : OpenClaim := { program := "ytegdgjnpfifofaa", sum := "8eadd52f231f413f5c4c9032d60cf378dc50abe05f90d4268a23b692e5debd20", func := "loop.example/g00348/laws.FnExactMulMatrix", spec := "fnExactMulMatrix", unfollowed := true, recurses := true, apart := false, narrowed := true }
def FnExactMulMatrixUptoSaid : Prop := fnExactMulMatrixUptoRow.holds Try.pinned (OpenSpec.upto fnExactMulMatrixSpec)

/-- 'laws.FnExactMatrixAt', WHERE WHAT IT READS IS OF BULK AT MOST 1048576: true; the input reads as it did. -/
def fnExactMatrixAtUptoRow : OpenClaim := { program := "ytegdgjnpfifofaa", sum := "8eadd52f231f413f5c4c9032d60cf378dc50abe05f90d4268a23b692e5debd20", func := "loop.example/g00348/laws.FnExactMatrixAt", spec := "fnExactMatrixAt", unfollowed := true, recurses := true, apart := false, narrowed := true }
def FnExactMatrixAtUptoSaid : Prop := fnExactMatrixAtUptoRow.holds Try.pinned (OpenSpec.upto fnExactMatrixAtSpec)

/-- 'laws.FnExactVectorOf', WHERE WHAT IT READS IS OF BULK AT MOST 1048576: true; the input reads as it did. -/
def fnExactVectorOfUptoRow : OpenClaim := { program := "ytegdgjnpfifofaa", sum := "8eadd52f231f413f5c4c9032d60cf378dc50abe05f90d4268a23b692e5debd20", func := "loop.example/g00348/laws.FnExactVectorOf", spec := "fnExactVectorOf", unfollowed := true, recurses := true, apart := false, narrowed := true }
def FnExactVectorOfUptoSaid : Prop := fnExactVectorOfUptoRow.holds Try.pinned (OpenSpec.upto fnExactVectorOfSpec)

/-- 'laws.FnExactSatisfied', WHERE WHAT IT READS IS OF BULK AT MOST 1048576: true; the input reads as it did. -/
def fnExactSatisfiedUptoRow : OpenClaim := { program := "ytegdgjnpfifofaa", sum := "8eadd52f231f413f5c4c9032d60cf378dc50abe05f90d4268a23b692e5debd20", func := "loop.example/g00348/laws.FnExactSatisfied", spec := "fnExactSatisfied", unfollowed := true, recurses := true, apart := false, narrowed := true }
def FnExactSatisfiedUptoSaid : Prop := fnExactSatisfiedUptoRow.holds Try.pinned (OpenSpec.upto fnExactSatisfiedSpec)

/-- 'laws.FnExactFailedRow', WHERE WHAT IT READS IS OF BULK AT MOST 1048576: true; the input reads as it did. -/
def fnExactFailedRowUptoRow : OpenClaim := { program := "ytegdgjnpfifofaa", sum := "8eadd52f231f413f5c4c9032d60cf378dc50abe05f90d4268a23b692e5debd20", func := "loop.example/g00348/laws.FnExactFailedRow", spec := "fnExactFailedRow", unfollowed := true, recurses := true, apart := false, narrowed := true }
def FnExactFailedRowUptoSaid : Prop := fnExactFailedRowUptoRow.holds Try.pinned (OpenSpec.upto fnExactFailedRowSpec)

/-- 'laws.FnSystem', WHERE WHAT IT READS IS OF BULK AT MOST 1048576: true; the input reads as it did. -/
def fnSystemUptoRow : OpenClaim := { program := "ytegdgjnpfifofaa", sum := "8eadd52f231f413f5c4c9032d60cf378dc50abe05f90d4268a23b692e5debd20", func := "loop.example/g00348/laws.FnSystem", spec := "fnSystem", unfollowed := true, recurses := true, apart := false, narrowed := true }
def FnSystemUptoSaid : Prop := fnSystemUptoRow.holds Try.pinned (OpenSpec.upto fnSystemSpec)

/-- 'laws.FnExactRunCircuit', WHERE WHAT IT READS IS OF BULK AT MOST 1048576: true; the input reads as it did. -/
def fnExactRunCircuitUptoRow : OpenClaim := { program := "ytegdgjnpfifofaa", sum := "8eadd52f231f413f5c4c9032d60cf378dc50abe05f90d4268a23b692e5debd20", func := "loop.example/g00348/laws.FnExactRunCircuit", spec := "fnExactRunCircuit", unfollowed := true, recurses := true, apart := false, narrowed := true }
def FnExactRunCircuitUptoSaid : Prop := fnExactRunCircuitUptoRow.holds Try.pinned (OpenSpec.upto fnExactRunCircuitSpec)

/-- 'laws.FnExactWitnessOf', WHERE WHAT IT READS IS OF BULK AT MOST 1048576: true; the input reads as it did. -/
def fnExactWitnessOfUptoRow : OpenClaim := { program := "ytegdgjnpfifofaa", sum := "8eadd52f231f413f5c4c9032d60cf378dc50abe05f90d4268a23b692e5debd20", func := "loop.example/g00348/laws.FnExactWitnessOf", spec := "fnExactWitnessOf", unfollowed := true, recurses := true, apart := false, narrowed := true }
def FnExactWitnessOfUptoSaid : Prop := fnExactWitnessOfUptoRow.holds Try.pinned (OpenSpec.upto fnExactWitnessOfSpec)

end Rows
end Go.Proofs.Ytegdgjnpfifofaa
