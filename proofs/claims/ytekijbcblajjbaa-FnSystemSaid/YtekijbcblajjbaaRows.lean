/-
  No cell of these rows narrows 'for every input' (looked for: loops, veiled, ifaces, maps, wideKeys, modest, calm, conditions, laid).
  DERIVED. THE GIVEN ROWS OF THIS SEAT. 7 by the template 'for every input the law returns true; each argument reads behind the call as it read before'; 0 by the template 'total and deterministic' (their statements: YtekijbcblajjbaaTotals.lean).
  GIVEN WITH THE SEED: the statements are not yours to turn. If you find one false, say at which input.
  Laid BY PROGRAM, IN A SANDBOX (cutbox-rows.mjs): the forced cells as the released guide's own fill.sh prints them over the translation 5fab9f036095debd… (all of the seat's roots in one cut). By AI agents, Wed Nov 11 2026. No macro, syntax, notation, axiom, sorry.
-/
import Derived.Test.YtekijbcblajjbaaChecked
import GoSem.Claim
import GoSem.ClaimJoined
import GoSem.ClaimMapViews
import Derived.JoinedTies
import Derived.KernelRfl
namespace Go.Proofs.Ytekijbcblajjbaa
/- THE CELL 'sum', in the pinned program and in every row, IS THE sha256 OF THE DUMP (.gsa) THAT YtekijbcblajjbaaProg.lean LOADS. Nothing in Lean hashes anything: it is a label: what it is worth is what the hold of that sum in a sandbox is worth. -/
noncomputable def Try.pinned : Pinned := { name := "ytekijbcblajjbaa", sum := "5fab9f036095debda4fd3cd3863a64db5aed7e5a6e1cfcc23885616943f7e6bc", checked := Try.checked }
namespace Rows
def none {H : Type} : Left H := { results := [], args := [] }

/-- 'laws.FnExactSystemOK': WHATEVER THE INPUT: true; the input reads as it did. -/
def fnExactSystemOKSpec : ChangeSpec := { name := "fnExactSystemOK", fn := fun _ => fun
  | [d] => { results := [.lit (.bool true)], args := [d] }
  | _ => none }
def fnExactSystemOKRow : OpenClaim := { program := "ytekijbcblajjbaa", sum := "5fab9f036095debda4fd3cd3863a64db5aed7e5a6e1cfcc23885616943f7e6bc", func := "loop.example/g00348/laws.FnExactSystemOK", spec := "fnExactSystemOK", apart := false }
def FnExactSystemOKSaid : Prop := fnExactSystemOKRow.holds Try.pinned (OpenSpec.ofChange fnExactSystemOKSpec)

/-- ITS FALSE NEIGHBOUR: 'it returns false'. Refute it at one input. -/
def fnExactSystemOKWrong : ChangeSpec := { name := "fnExactSystemOK", fn := fun _ => fun
  | [d] => { results := [.lit (.bool false)], args := [d] }
  | _ => none }
def FnExactSystemOKWrongFalsely : Prop := fnExactSystemOKRow.holds Try.pinned (OpenSpec.ofChange fnExactSystemOKWrong)

/-- 'laws.FnExactVectorOf': WHATEVER THE INPUT: true; the input reads as it did. -/
def fnExactVectorOfSpec : ChangeSpec := { name := "fnExactVectorOf", fn := fun _ => fun
  | [d1, d2, d3] => { results := [.lit (.bool true)], args := [d1, d2, d3] }
  | _ => none }
def fnExactVectorOfRow : OpenClaim := { program := "ytekijbcblajjbaa", sum := "5fab9f036095debda4fd3cd3863a64db5aed7e5a6e1cfcc23885616943f7e6bc", func := "loop.example/g00348/laws.FnExactVectorOf", spec := "fnExactVectorOf", unfollowed := true, recurses := true, apart := false }
def FnExactVectorOfSaid : Prop := fnExactVectorOfRow.holds Try.pinned (OpenSpec.ofChange fnExactVectorOfSpec)

/-- ITS FALSE NEIGHBOUR: 'it returns false'. Refute it at one input. -/
def fnExactVectorOfWrong : ChangeSpec := { name := "fnExactVectorOf", fn := fun _ => fun
  | [d1, d2, d3] => { results := [.lit (.bool false)], args := [d1, d2, d3] }
  | _ => none }
def FnExactVectorOfWrongFalsely : Prop := fnExactVectorOfRow.holds Try.pinned (OpenSpec.ofChange fnExactVectorOfWrong)

/-- 'laws.FnExactSatisfied': WHATEVER THE INPUT: true; the input reads as it did. -/
def fnExactSatisfiedSpec : ChangeSpec := { name := "fnExactSatisfied", fn := fun _ => fun
  | [d1, d2] => { results := [.lit (.bool true)], args := [d1, d2] }
  | _ => none }
def fnExactSatisfiedRow : OpenClaim := { program := "ytekijbcblajjbaa", sum := "5fab9f036095debda4fd3cd3863a64db5aed7e5a6e1cfcc23885616943f7e6bc", func := "loop.example/g00348/laws.FnExactSatisfied", spec := "fnExactSatisfied", unfollowed := true, recurses := true, apart := false }
def FnExactSatisfiedSaid : Prop := fnExactSatisfiedRow.holds Try.pinned (OpenSpec.ofChange fnExactSatisfiedSpec)

/-- ITS FALSE NEIGHBOUR: 'it returns false'. Refute it at one input. -/
def fnExactSatisfiedWrong : ChangeSpec := { name := "fnExactSatisfied", fn := fun _ => fun
  | [d1, d2] => { results := [.lit (.bool false)], args := [d1, d2] }
  | _ => none }
def FnExactSatisfiedWrongFalsely : Prop := fnExactSatisfiedRow.holds Try.pinned (OpenSpec.ofChange fnExactSatisfiedWrong)

/-- 'laws.FnExactFailedRow': WHATEVER THE INPUT: true; the input reads as it did. -/
def fnExactFailedRowSpec : ChangeSpec := { name := "fnExactFailedRow", fn := fun _ => fun
  | [d1, d2] => { results := [.lit (.bool true)], args := [d1, d2] }
  | _ => none }
def fnExactFailedRowRow : OpenClaim := { program := "ytekijbcblajjbaa", sum := "5fab9f036095debda4fd3cd3863a64db5aed7e5a6e1cfcc23885616943f7e6bc", func := "loop.example/g00348/laws.FnExactFailedRow", spec := "fnExactFailedRow", unfollowed := true, recurses := true, apart := false }
def FnExactFailedRowSaid : Prop := fnExactFailedRowRow.holds Try.pinned (OpenSpec.ofChange fnExactFailedRowSpec)

/-- ITS FALSE NEIGHBOUR: 'it returns false'. Refute it at one input. -/
def fnExactFailedRowWrong : ChangeSpec := { name := "fnExactFailedRow", fn := fun _ => fun
  | [d1, d2] => { results := [.lit (.bool false)], args := [d1, d2] }
  | _ => none }
def FnExactFailedRowWrongFalsely : Prop := fnExactFailedRowRow.holds Try.pinned (OpenSpec.ofChange fnExactFailedRowWrong)

/-- 'laws.FnSystem': WHATEVER THE INPUT: true; the input reads as it did. -/
def fnSystemSpec : ChangeSpec := { name := "fnSystem", fn := fun _ => fun
  | [d1, d2] => { results := [.lit (.bool true)], args := [d1, d2] }
  | _ => none }
def fnSystemRow : OpenClaim := { program := "ytekijbcblajjbaa", sum := "5fab9f036095debda4fd3cd3863a64db5aed7e5a6e1cfcc23885616943f7e6bc", func := "loop.example/g00348/laws.FnSystem", spec := "fnSystem", unfollowed := true, recurses := true, apart := false }
def FnSystemSaid : Prop := fnSystemRow.holds Try.pinned (OpenSpec.ofChange fnSystemSpec)

/-- ITS FALSE NEIGHBOUR: 'it returns false'. Refute it at one input. -/
def fnSystemWrong : ChangeSpec := { name := "fnSystem", fn := fun _ => fun
  | [d1, d2] => { results := [.lit (.bool false)], args := [d1, d2] }
  | _ => none }
def FnSystemWrongFalsely : Prop := fnSystemRow.holds Try.pinned (OpenSpec.ofChange fnSystemWrong)

/-- 'laws.FnExactRunCircuit': WHATEVER THE INPUT: true; the input reads as it did. -/
def fnExactRunCircuitSpec : ChangeSpec := { name := "fnExactRunCircuit", fn := fun _ => fun
  | [d1, d2, d3] => { results := [.lit (.bool true)], args := [d1, d2, d3] }
  | _ => none }
def fnExactRunCircuitRow : OpenClaim := { program := "ytekijbcblajjbaa", sum := "5fab9f036095debda4fd3cd3863a64db5aed7e5a6e1cfcc23885616943f7e6bc", func := "loop.example/g00348/laws.FnExactRunCircuit", spec := "fnExactRunCircuit", unfollowed := true, recurses := true, apart := false }
def FnExactRunCircuitSaid : Prop := fnExactRunCircuitRow.holds Try.pinned (OpenSpec.ofChange fnExactRunCircuitSpec)

/-- ITS FALSE NEIGHBOUR: 'it returns false'. Refute it at one input. -/
def fnExactRunCircuitWrong : ChangeSpec := { name := "fnExactRunCircuit", fn := fun _ => fun
  | [d1, d2, d3] => { results := [.lit (.bool false)], args := [d1, d2, d3] }
  | _ => none }
def FnExactRunCircuitWrongFalsely : Prop := fnExactRunCircuitRow.holds Try.pinned (OpenSpec.ofChange fnExactRunCircuitWrong)

/-- 'laws.FnExactWitnessOf': WHATEVER THE INPUT: true; the input reads as it did. -/
def fnExactWitnessOfSpec : ChangeSpec := { name := "fnExactWitnessOf", fn := fun _ => fun
  | [d1, d2, d3] => { results := [.lit (.bool true)], args := [d1, d2, d3] }
  | _ => none }
def fnExactWitnessOfRow : OpenClaim := { program := "ytekijbcblajjbaa", sum := "5fab9f036095debda4fd3cd3863a64db5aed7e5a6e1cfcc23885616943f7e6bc", func := "loop.example/g00348/laws.FnExactWitnessOf", spec := "fnExactWitnessOf", unfollowed := true, recurses := true, apart := false }
def FnExactWitnessOfSaid : Prop := fnExactWitnessOfRow.holds Try.pinned (OpenSpec.ofChange fnExactWitnessOfSpec)

/-- ITS FALSE NEIGHBOUR: 'it returns false'. Refute it at one input. -/
def fnExactWitnessOfWrong : ChangeSpec := { name := "fnExactWitnessOf", fn := fun _ => fun
  | [d1, d2, d3] => { results := [.lit (.bool false)], args := [d1, d2, d3] }
  | _ => none }
def FnExactWitnessOfWrongFalsely : Prop := fnExactWitnessOfRow.holds Try.pinned (OpenSpec.ofChange fnExactWitnessOfWrong)

/- THE SECOND FORM. 'bulk': how many values and letters a reading holds, each counted each time it is reached (what is shared counts as often as it is met; a slice's spare places count too). A statement '..UptoSaid' is the law's where the arguments, and the package variables that the reading takes, are together of bulk at most 1048576: NARROWER than '..Said'. Prove '..Said' where nothing that the law and all that it calls make is longer than what came in: it says more and counts as full. Else prove '..UptoSaid'. A law counts once. -/
mutual
def uptoBulk {H : Type} : DataW H → Nat
  | .lit (.string bytes) => bytes.length + 1
  | .lit _ => 1
  | .nil => 1
  | .ptr d => uptoBulk d + 1
  | .slice elems spare => uptoBulkAll elems + uptoBulkAll spare + 1
  | .agg parts => uptoBulkAll parts + 1
  | .iface _ d => uptoBulk d + 1
  | .map entries => uptoBulkEntries entries + 1
  | .held _ => 1
def uptoBulkAll {H : Type} : List (DataW H) → Nat
  | [] => 0
  | d :: r => uptoBulk d + uptoBulkAll r
def uptoBulkEntries {H : Type} : List (Lit × DataW H) → Nat
  | [] => 0
  | x :: r => uptoBulkEntry x + uptoBulkEntries r
def uptoBulkEntry {H : Type} : Lit × DataW H → Nat
  | (.string bytes, d) => bytes.length + uptoBulk d + 1
  | (_, d) => uptoBulk d + 1
 end
def uptoSmall : (H : Type) → List (DataW H) → Bool := fun _ ds => decide (uptoBulkAll ds ≤ 1048576)
def OpenSpec.upto (s : _root_.Go.ChangeSpec) : _root_.Go.OpenSpec := { _root_.Go.OpenSpec.ofChange s with cond := some uptoSmall }

/-- 'laws.FnExactSystemOK', WHERE WHAT IT READS IS OF BULK AT MOST 1048576: true; the input reads as it did. -/
def fnExactSystemOKUptoRow : OpenClaim := { program := "ytekijbcblajjbaa", sum := "5fab9f036095debda4fd3cd3863a64db5aed7e5a6e1cfcc23885616943f7e6bc", func := "loop.example/g00348/laws.FnExactSystemOK", spec := "fnExactSystemOK", apart := false, narrowed := true }
def FnExactSystemOKUptoSaid : Prop := fnExactSystemOKUptoRow.holds Try.pinned (OpenSpec.upto fnExactSystemOKSpec)

/-- 'laws.FnExactVectorOf', WHERE WHAT IT READS IS OF BULK AT MOST 1048576: true; the input reads as it did. -/
def fnExactVectorOfUptoRow : OpenClaim := { program := "ytekijbcblajjbaa", sum := "5fab9f036095debda4fd3cd3863a64db5aed7e5a6e1cfcc23885616943f7e6bc", func := "loop.example/g00348/laws.FnExactVectorOf", spec := "fnExactVectorOf", unfollowed := true, recurses := true, apart := false, narrowed := true }
def FnExactVectorOfUptoSaid : Prop := fnExactVectorOfUptoRow.holds Try.pinned (OpenSpec.upto fnExactVectorOfSpec)

/-- 'laws.FnExactSatisfied', WHERE WHAT IT READS IS OF BULK AT MOST 1048576: true; the input reads as it did. -/
def fnExactSatisfiedUptoRow : OpenClaim := { program := "ytekijbcblajjbaa", sum := "5fab9f036095debda4fd3cd3863a64db5aed7e5a6e1cfcc23885616943f7e6bc", func := "loop.example/g00348/laws.FnExactSatisfied", spec := "fnExactSatisfied", unfollowed := true, recurses := true, apart := false, narrowed := true }
def FnExactSatisfiedUptoSaid : Prop := fnExactSatisfiedUptoRow.holds Try.pinned (OpenSpec.upto fnExactSatisfiedSpec)

/-- 'laws.FnExactFailedRow', WHERE WHAT IT READS IS OF BULK AT MOST 1048576: true; the input reads as it did. -/
def fnExactFailedRowUptoRow : OpenClaim := { program := "ytekijbcblajjbaa", sum := "5fab9f036095debda4fd3cd3863a64db5aed7e5a6e1cfcc23885616943f7e6bc", func := "loop.example/g00348/laws.FnExactFailedRow", spec := "fnExactFailedRow", unfollowed := true, recurses := true, apart := false, narrowed := true }
def FnExactFailedRowUptoSaid : Prop := fnExactFailedRowUptoRow.holds Try.pinned (OpenSpec.upto fnExactFailedRowSpec)

/-- 'laws.FnSystem', WHERE WHAT IT READS IS OF BULK AT MOST 1048576: true; the input reads as it did. -/
def fnSystemUptoRow : OpenClaim := { program := "ytekijbcblajjbaa", sum := "5fab9f036095debda4fd3cd3863a64db5aed7e5a6e1cfcc23885616943f7e6bc", func := "loop.example/g00348/laws.FnSystem", spec := "fnSystem", unfollowed := true, recurses := true, apart := false, narrowed := true }
def FnSystemUptoSaid : Prop := fnSystemUptoRow.holds Try.pinned (OpenSpec.upto fnSystemSpec)

/-- 'laws.FnExactRunCircuit', WHERE WHAT IT READS IS OF BULK AT MOST 1048576: true; the input reads as it did. -/
def fnExactRunCircuitUptoRow : OpenClaim := { program := "ytekijbcblajjbaa", sum := "5fab9f036095debda4fd3cd3863a64db5aed7e5a6e1cfcc23885616943f7e6bc", func := "loop.example/g00348/laws.FnExactRunCircuit", spec := "fnExactRunCircuit", unfollowed := true, recurses := true, apart := false, narrowed := true }
def FnExactRunCircuitUptoSaid : Prop := fnExactRunCircuitUptoRow.holds Try.pinned (OpenSpec.upto fnExactRunCircuitSpec)

/-- 'laws.FnExactWitnessOf', WHERE WHAT IT READS IS OF BULK AT MOST 1048576: true; the input reads as it did. -/
def fnExactWitnessOfUptoRow : OpenClaim := { program := "ytekijbcblajjbaa", sum := "5fab9f036095debda4fd3cd3863a64db5aed7e5a6e1cfcc23885616943f7e6bc", func := "loop.example/g00348/laws.FnExactWitnessOf", spec := "fnExactWitnessOf", unfollowed := true, recurses := true, apart := false, narrowed := true }
def FnExactWitnessOfUptoSaid : Prop := fnExactWitnessOfUptoRow.holds Try.pinned (OpenSpec.upto fnExactWitnessOfSpec)

end Rows
end Go.Proofs.Ytekijbcblajjbaa
