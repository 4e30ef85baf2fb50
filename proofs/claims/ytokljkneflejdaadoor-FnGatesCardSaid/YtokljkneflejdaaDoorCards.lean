/-
  DERIVED. GIVEN WITH THE SEED: THE CARDS: each row of YtokljkneflejdaaDoorRows.lean that lists a variable, with what it lists TIED to the program's text (the seventh form; the later family's looks); each row that meets fmt, with fmt's text TOLD by the authors' own Lean function (tested against real Go, not proved from fmt's source: count such statements apart). THE CARD IS WHAT COUNTS. Prove the row's statement (the work); the ties are given (YtokljkneflejdaaDoorTie.lean); close each card by the builder's one call (the guide's Derived/Test/ToyasCard.lean, 'card_holds'). Laid BY PROGRAM, IN A SANDBOX (cutbox-door.mjs). By AI agents, Wed Nov 11 2026. No macro, syntax, notation, axiom, sorry.
-/
import Derived.Test.YtokljkneflejdaaDoorRows
import GoSem.ClaimSeven
namespace Go.Proofs.YtokljkneflejdaaDoor
namespace Rows

/-- THE TIED CARD OF 'laws.FnGates'. -/
def fnGatesCard : Claim7 := { stood := { row := fnGatesRow, standIns := [], harness := (true, "6b350ec2a409d8f1748519ce4341ef362b854185b134ad0cedb8deef348a4553"), looks := true }, kinds := [], alts := [], laidByText := true, laidKinds := [.data, .data, .data, .data, .sentinel, .sentinel, .pinned], laidTests := true, laidLooks := .later }
def FnGatesCardSaid : Prop := Claim7.holds Tryd.pinned (.plain (OpenSpec.ofChange fnGatesSpec)) fnGatesCard

/-- THE TIED CARD OF 'laws.FnExactReadGate'. -/
def fnExactReadGateCard : Claim7 := { stood := { row := fnExactReadGateRow, standIns := [], harness := (true, "6b350ec2a409d8f1748519ce4341ef362b854185b134ad0cedb8deef348a4553"), looks := true }, kinds := [], alts := [], laidByText := true, laidKinds := [.data, .data, .data, .data, .sentinel, .sentinel, .pinned], laidTests := true, laidLooks := .later }
def FnExactReadGateCardSaid : Prop := Claim7.holds Tryd.pinned (.plain (OpenSpec.ofChange fnExactReadGateSpec)) fnExactReadGateCard

/-- THE SECOND FORM's CARD OF 'laws.FnGates'. -/
def fnGatesUptoCard : Claim7 := { stood := { row := fnGatesUptoRow, standIns := [], harness := (true, "6b350ec2a409d8f1748519ce4341ef362b854185b134ad0cedb8deef348a4553"), looks := true }, kinds := [], alts := [], laidByText := true, laidKinds := [.data, .data, .data, .data, .sentinel, .sentinel, .pinned], laidTests := true, laidLooks := .later }
def FnGatesUptoCardSaid : Prop := Claim7.holds Tryd.pinned (.plain (OpenSpec.upto fnGatesSpec)) fnGatesUptoCard

/-- THE SECOND FORM's CARD OF 'laws.FnExactReadGate'. -/
def fnExactReadGateUptoCard : Claim7 := { stood := { row := fnExactReadGateUptoRow, standIns := [], harness := (true, "6b350ec2a409d8f1748519ce4341ef362b854185b134ad0cedb8deef348a4553"), looks := true }, kinds := [], alts := [], laidByText := true, laidKinds := [.data, .data, .data, .data, .sentinel, .sentinel, .pinned], laidTests := true, laidLooks := .later }
def FnExactReadGateUptoCardSaid : Prop := Claim7.holds Tryd.pinned (.plain (OpenSpec.upto fnExactReadGateSpec)) fnExactReadGateUptoCard
end Rows
end Go.Proofs.YtokljkneflejdaaDoor
