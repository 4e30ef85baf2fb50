/-
  No cell of these rows narrows 'for every input' (looked for: loops, veiled, ifaces, maps, wideKeys, modest, calm, conditions, laid).
  DERIVED. THE GIVEN ROWS OF THIS SEAT. 4 by the template 'for every input the law returns true; each argument reads behind the call as it read before'; 0 by the template 'total and deterministic' (their statements: YtgookagndlfehaaTotals.lean).
  GIVEN WITH THE SEED: the statements are not yours to turn. If you find one false, say at which input.
  Laid BY PROGRAM, IN A SANDBOX (cutbox-rows.mjs): the forced cells as the released guide's own fill.sh prints them over the translation c830d8bef76e266a… (all of the seat's roots in one cut). By AI agents, Wed Nov 11 2026. No macro, syntax, notation, axiom, sorry.
-/
import Derived.Test.YtgookagndlfehaaChecked
import GoSem.Claim
import GoSem.ClaimJoined
import GoSem.ClaimMapViews
import Derived.JoinedTies
import Derived.KernelRfl
namespace Go.Proofs.Ytgookagndlfehaa
/- THE CELL 'sum', in the pinned program and in every row, IS THE sha256 OF THE DUMP (.gsa) THAT YtgookagndlfehaaProg.lean LOADS. Nothing in Lean hashes anything: it is a label: what it is worth is what the hold of that sum in a sandbox is worth. -/
noncomputable def Try.pinned : Pinned := { name := "ytgookagndlfehaa", sum := "c830d8bef76e266ab37cdd4a3c622f106e687d75c2e350feb193bcf118c917d5", checked := Try.checked }
namespace Rows
def none {H : Type} : Left H := { results := [], args := [] }

/-- 'laws.FnScript': WHATEVER THE INPUT: true; the input reads as it did. -/
def fnScriptSpec : ChangeSpec := { name := "fnScript", fn := fun _ => fun
  | [d1, d2] => { results := [.lit (.bool true)], args := [d1, d2] }
  | _ => none }
def fnScriptRow : OpenClaim := { program := "ytgookagndlfehaa", sum := "c830d8bef76e266ab37cdd4a3c622f106e687d75c2e350feb193bcf118c917d5", func := "loop.example/g00348/laws.FnScript", spec := "fnScript", unfollowed := true, recurses := true, apart := false }
def FnScriptSaid : Prop := fnScriptRow.holds Try.pinned (OpenSpec.ofChange fnScriptSpec)

/-- ITS FALSE NEIGHBOUR: 'it returns false'. Refute it at one input. -/
def fnScriptWrong : ChangeSpec := { name := "fnScript", fn := fun _ => fun
  | [d1, d2] => { results := [.lit (.bool false)], args := [d1, d2] }
  | _ => none }
def FnScriptWrongFalsely : Prop := fnScriptRow.holds Try.pinned (OpenSpec.ofChange fnScriptWrong)

/-- 'laws.FnExactSystemDigest': WHATEVER THE INPUT: true; the input reads as it did. -/
def fnExactSystemDigestSpec : ChangeSpec := { name := "fnExactSystemDigest", fn := fun _ => fun
  | [d] => { results := [.lit (.bool true)], args := [d] }
  | _ => none }
def fnExactSystemDigestRow : OpenClaim := { program := "ytgookagndlfehaa", sum := "c830d8bef76e266ab37cdd4a3c622f106e687d75c2e350feb193bcf118c917d5", func := "loop.example/g00348/laws.FnExactSystemDigest", spec := "fnExactSystemDigest", apart := false }
def FnExactSystemDigestSaid : Prop := fnExactSystemDigestRow.holds Try.pinned (OpenSpec.ofChange fnExactSystemDigestSpec)

/-- ITS FALSE NEIGHBOUR: 'it returns false'. Refute it at one input. -/
def fnExactSystemDigestWrong : ChangeSpec := { name := "fnExactSystemDigest", fn := fun _ => fun
  | [d] => { results := [.lit (.bool false)], args := [d] }
  | _ => none }
def FnExactSystemDigestWrongFalsely : Prop := fnExactSystemDigestRow.holds Try.pinned (OpenSpec.ofChange fnExactSystemDigestWrong)

/-- 'laws.FnExactCommitTable': WHATEVER THE INPUT: true; the input reads as it did. -/
def fnExactCommitTableSpec : ChangeSpec := { name := "fnExactCommitTable", fn := fun _ => fun
  | [d1, d2] => { results := [.lit (.bool true)], args := [d1, d2] }
  | _ => none }
def fnExactCommitTableRow : OpenClaim := { program := "ytgookagndlfehaa", sum := "c830d8bef76e266ab37cdd4a3c622f106e687d75c2e350feb193bcf118c917d5", func := "loop.example/g00348/laws.FnExactCommitTable", spec := "fnExactCommitTable", unfollowed := true, recurses := true, apart := false }
def FnExactCommitTableSaid : Prop := fnExactCommitTableRow.holds Try.pinned (OpenSpec.ofChange fnExactCommitTableSpec)

/-- ITS FALSE NEIGHBOUR: 'it returns false'. Refute it at one input. -/
def fnExactCommitTableWrong : ChangeSpec := { name := "fnExactCommitTable", fn := fun _ => fun
  | [d1, d2] => { results := [.lit (.bool false)], args := [d1, d2] }
  | _ => none }
def FnExactCommitTableWrongFalsely : Prop := fnExactCommitTableRow.holds Try.pinned (OpenSpec.ofChange fnExactCommitTableWrong)

/-- 'laws.FnExactSumVerify': WHATEVER THE INPUT: true; the input reads as it did. -/
def fnExactSumVerifySpec : ChangeSpec := { name := "fnExactSumVerify", fn := fun _ => fun
  | [d1, d2, d3, d4, d5] => { results := [.lit (.bool true)], args := [d1, d2, d3, d4, d5] }
  | _ => none }
def fnExactSumVerifyRow : OpenClaim := { program := "ytgookagndlfehaa", sum := "c830d8bef76e266ab37cdd4a3c622f106e687d75c2e350feb193bcf118c917d5", func := "loop.example/g00348/laws.FnExactSumVerify", spec := "fnExactSumVerify", unfollowed := true, recurses := true, apart := false }
def FnExactSumVerifySaid : Prop := fnExactSumVerifyRow.holds Try.pinned (OpenSpec.ofChange fnExactSumVerifySpec)

/-- ITS FALSE NEIGHBOUR: 'it returns false'. Refute it at one input. -/
def fnExactSumVerifyWrong : ChangeSpec := { name := "fnExactSumVerify", fn := fun _ => fun
  | [d1, d2, d3, d4, d5] => { results := [.lit (.bool false)], args := [d1, d2, d3, d4, d5] }
  | _ => none }
def FnExactSumVerifyWrongFalsely : Prop := fnExactSumVerifyRow.holds Try.pinned (OpenSpec.ofChange fnExactSumVerifyWrong)

/- THE SECOND FORM. 'bulk': how many values and letters a reading holds, each counted each time it is reached (what is shared counts as often as it is met; a slice's spare places count too). A statement '..UptoSaid' is the law's where the arguments, and the package variables that the reading takes, are together of bulk at most 1048576: NARROWER than '..Said'. Prove '..Said' where nothing that the law and all that it calls make is longer than what came in: it says more and counts as full. Else prove '..UptoSaid'. A law counts once. -/
mutual
def uptoBulk {H : Type} : DataW H → Nat
  | .lit (.string bytes) => bytes.length + 1
  | .lit _ => 1
  | .nil => 1
  | .ptr d => uptoBulk d + 1
  | .slice elems spare => uptoBulkAll elems + uptoBulkAll spare + 1
  | .agg parts => uptoBulkAll parts + 1
  | .iface _ d => uptoBulk d + 1
  | .map entries => uptoBulkEntries entries + 1
  | .held _ => 1
def uptoBulkAll {H : Type} : List (DataW H) → Nat
  | [] => 0
  | d :: r => uptoBulk d + uptoBulkAll r
def uptoBulkEntries {H : Type} : List (Lit × DataW H) → Nat
  | [] => 0
  | x :: r => uptoBulkEntry x + uptoBulkEntries r
def uptoBulkEntry {H : Type} : Lit × DataW H → Nat
  | (.string bytes, d) => bytes.length + uptoBulk d + 1
  | (_, d) => uptoBulk d + 1
 end
def uptoSmall : (H : Type) → List (DataW H) → Bool := fun _ ds => decide (uptoBulkAll ds ≤ 1048576)
def OpenSpec.upto (s : _root_.Go.ChangeSpec) : _root_.Go.OpenSpec := { _root_.Go.OpenSpec.ofChange s with cond := some uptoSmall }

/-- 'laws.FnScript', WHERE WHAT IT READS IS OF BULK AT MOST 1048576: true; the input reads as it did. -/
def fnScriptUptoRow : OpenClaim := { program := "ytgookagndlfehaa", sum := "c830d8bef76e266ab37cdd4a3c622f106e687d75c2e350feb193bcf118c917d5", func := "loop.example/g00348/laws.FnScript", spec := "fnScript", unfollowed := true, recurses := true, apart := false, narrowed := true }
def FnScriptUptoSaid : Prop := fnScriptUptoRow.holds Try.pinned (OpenSpec.upto fnScriptSpec)

/-- 'laws.FnExactSystemDigest', WHERE WHAT IT READS IS OF BULK AT MOST 1048576: true; the input reads as it did. -/
def fnExactSystemDigestUptoRow : OpenClaim := { program := "ytgookagndlfehaa", sum := "c830d8bef76e266ab37cdd4a3c622f106e687d75c2e350feb193bcf118c917d5", func := "loop.example/g00348/laws.FnExactSystemDigest", spec := "fnExactSystemDigest", apart := false, narrowed := true }
def FnExactSystemDigestUptoSaid : Prop := fnExactSystemDigestUptoRow.holds Try.pinned (OpenSpec.upto fnExactSystemDigestSpec)

/-- 'laws.FnExactCommitTable', WHERE WHAT IT READS IS OF BULK AT MOST 1048576: true; the input reads as it did. -/
def fnExactCommitTableUptoRow : OpenClaim := { program := "ytgookagndlfehaa", sum := "c830d8bef76e266ab37cdd4a3c622f106e687d75c2e350feb193bcf118c917d5", func := "loop.example/g00348/laws.FnExactCommitTable", spec := "fnExactCommitTable", unfollowed := true, recurses := true, apart := false, narrowed := true }
def FnExactCommitTableUptoSaid : Prop := fnExactCommitTableUptoRow.holds Try.pinned (OpenSpec.upto fnExactCommitTableSpec)

/-- 'laws.FnExactSumVerify', WHERE WHAT IT READS IS OF BULK AT MOST 1048576: true; the input reads as it did. -/
def fnExactSumVerifyUptoRow : OpenClaim := { program := "ytgookagndlfehaa", sum := "c830d8bef76e266ab37cdd4a3c622f106e687d75c2e350feb193bcf118c917d5", func := "loop.example/g00348/laws.FnExactSumVerify", spec := "fnExactSumVerify", unfollowed := true, recurses := true, apart := false, narrowed := true }
def FnExactSumVerifyUptoSaid : Prop := fnExactSumVerifyUptoRow.holds Try.pinned (OpenSpec.upto fnExactSumVerifySpec)

end Rows
end Go.Proofs.Ytgookagndlfehaa
