/-
  No cell of these rows narrows 'for every input' (looked for: loops, veiled, ifaces, maps, wideKeys, modest, calm, conditions, laid).
  DERIVED. THE GIVEN ROWS OF THIS SEAT. 26 by the template 'for every input the law returns true; each argument reads behind the call as it read before'; 0 by the template 'total and deterministic' (their statements: YtlfnfalckfggkaaTotals.lean).
  GIVEN WITH THE SEED: the statements are not yours to turn. If you find one false, say at which input.
  Laid BY PROGRAM, IN A SANDBOX (cutbox-rows.mjs): the forced cells as the released guide's own fill.sh prints them over the translation afa83defaa69efac… (all of the seat's roots in one cut). By AI agents, Wed Nov 11 2026. No macro, syntax, notation, axiom, sorry.
-/
import Derived.Test.YtlfnfalckfggkaaChecked
import GoSem.Claim
import GoSem.ClaimJoined
import GoSem.ClaimMapViews
import Derived.JoinedTies
import Derived.KernelRfl
namespace Go.Proofs.Ytlfnfalckfggkaa
/- THE CELL 'sum', in the pinned program and in every row, IS THE sha256 OF THE DUMP (.gsa) THAT YtlfnfalckfggkaaProg.lean LOADS. Nothing in Lean hashes anything: it is a label: what it is worth is what the hold of that sum in a sandbox is worth. -/
noncomputable def Try.pinned : Pinned := { name := "ytlfnfalckfggkaa", sum := "afa83defaa69efacef809a9fad4dc9d9813903f0810c887cecaddc8d058b3804", checked := Try.checked }
namespace Rows
def none {H : Type} : Left H := { results := [], args := [] }

/-- 'laws.FnExactSettingOK': WHATEVER THE INPUT: true; the input reads as it did. -/
def fnExactSettingOKSpec : ChangeSpec := { name := "fnExactSettingOK", fn := fun _ => fun
  | [d] => { results := [.lit (.bool true)], args := [d] }
  | _ => none }
def fnExactSettingOKRow : OpenClaim := { program := "ytlfnfalckfggkaa", sum := "afa83defaa69efacef809a9fad4dc9d9813903f0810c887cecaddc8d058b3804", func := "loop.example/g00348/laws.FnExactSettingOK", spec := "fnExactSettingOK", apart := false }
def FnExactSettingOKSaid : Prop := fnExactSettingOKRow.holds Try.pinned (OpenSpec.ofChange fnExactSettingOKSpec)

/-- ITS FALSE NEIGHBOUR: 'it returns false'. Refute it at one input. -/
def fnExactSettingOKWrong : ChangeSpec := { name := "fnExactSettingOK", fn := fun _ => fun
  | [d] => { results := [.lit (.bool false)], args := [d] }
  | _ => none }
def FnExactSettingOKWrongFalsely : Prop := fnExactSettingOKRow.holds Try.pinned (OpenSpec.ofChange fnExactSettingOKWrong)

/-- 'laws.FnExactDegreeOf': WHATEVER THE INPUT: true; the input reads as it did. -/
def fnExactDegreeOfSpec : ChangeSpec := { name := "fnExactDegreeOf", fn := fun _ => fun
  | [d] => { results := [.lit (.bool true)], args := [d] }
  | _ => none }
def fnExactDegreeOfRow : OpenClaim := { program := "ytlfnfalckfggkaa", sum := "afa83defaa69efacef809a9fad4dc9d9813903f0810c887cecaddc8d058b3804", func := "loop.example/g00348/laws.FnExactDegreeOf", spec := "fnExactDegreeOf", apart := false }
def FnExactDegreeOfSaid : Prop := fnExactDegreeOfRow.holds Try.pinned (OpenSpec.ofChange fnExactDegreeOfSpec)

/-- ITS FALSE NEIGHBOUR: 'it returns false'. Refute it at one input. -/
def fnExactDegreeOfWrong : ChangeSpec := { name := "fnExactDegreeOf", fn := fun _ => fun
  | [d] => { results := [.lit (.bool false)], args := [d] }
  | _ => none }
def FnExactDegreeOfWrongFalsely : Prop := fnExactDegreeOfRow.holds Try.pinned (OpenSpec.ofChange fnExactDegreeOfWrong)

/-- 'laws.FnExactOpeningSize': WHATEVER THE INPUT: true; the input reads as it did. -/
def fnExactOpeningSizeSpec : ChangeSpec := { name := "fnExactOpeningSize", fn := fun _ => fun
  | [d1, d2] => { results := [.lit (.bool true)], args := [d1, d2] }
  | _ => none }
def fnExactOpeningSizeRow : OpenClaim := { program := "ytlfnfalckfggkaa", sum := "afa83defaa69efacef809a9fad4dc9d9813903f0810c887cecaddc8d058b3804", func := "loop.example/g00348/laws.FnExactOpeningSize", spec := "fnExactOpeningSize", apart := false }
def FnExactOpeningSizeSaid : Prop := fnExactOpeningSizeRow.holds Try.pinned (OpenSpec.ofChange fnExactOpeningSizeSpec)

/-- ITS FALSE NEIGHBOUR: 'it returns false'. Refute it at one input. -/
def fnExactOpeningSizeWrong : ChangeSpec := { name := "fnExactOpeningSize", fn := fun _ => fun
  | [d1, d2] => { results := [.lit (.bool false)], args := [d1, d2] }
  | _ => none }
def FnExactOpeningSizeWrongFalsely : Prop := fnExactOpeningSizeRow.holds Try.pinned (OpenSpec.ofChange fnExactOpeningSizeWrong)

/-- 'laws.FnExactTableOK': WHATEVER THE INPUT: true; the input reads as it did. -/
def fnExactTableOKSpec : ChangeSpec := { name := "fnExactTableOK", fn := fun _ => fun
  | [d] => { results := [.lit (.bool true)], args := [d] }
  | _ => none }
def fnExactTableOKRow : OpenClaim := { program := "ytlfnfalckfggkaa", sum := "afa83defaa69efacef809a9fad4dc9d9813903f0810c887cecaddc8d058b3804", func := "loop.example/g00348/laws.FnExactTableOK", spec := "fnExactTableOK", unfollowed := true, recurses := true, apart := false }
def FnExactTableOKSaid : Prop := fnExactTableOKRow.holds Try.pinned (OpenSpec.ofChange fnExactTableOKSpec)

/-- ITS FALSE NEIGHBOUR: 'it returns false'. Refute it at one input. -/
def fnExactTableOKWrong : ChangeSpec := { name := "fnExactTableOK", fn := fun _ => fun
  | [d] => { results := [.lit (.bool false)], args := [d] }
  | _ => none }
def FnExactTableOKWrongFalsely : Prop := fnExactTableOKRow.holds Try.pinned (OpenSpec.ofChange fnExactTableOKWrong)

/-- 'laws.FnExtInverse': WHATEVER THE INPUT: true; the input reads as it did. -/
def fnExtInverseSpec : ChangeSpec := { name := "fnExtInverse", fn := fun _ => fun
  | [d1, d2] => { results := [.lit (.bool true)], args := [d1, d2] }
  | _ => none }
def fnExtInverseRow : OpenClaim := { program := "ytlfnfalckfggkaa", sum := "afa83defaa69efacef809a9fad4dc9d9813903f0810c887cecaddc8d058b3804", func := "loop.example/g00348/laws.FnExtInverse", spec := "fnExtInverse", unfollowed := true, recurses := true, apart := false }
def FnExtInverseSaid : Prop := fnExtInverseRow.holds Try.pinned (OpenSpec.ofChange fnExtInverseSpec)

/-- ITS FALSE NEIGHBOUR: 'it returns false'. Refute it at one input. -/
def fnExtInverseWrong : ChangeSpec := { name := "fnExtInverse", fn := fun _ => fun
  | [d1, d2] => { results := [.lit (.bool false)], args := [d1, d2] }
  | _ => none }
def FnExtInverseWrongFalsely : Prop := fnExtInverseRow.holds Try.pinned (OpenSpec.ofChange fnExtInverseWrong)

/-- 'laws.FnExactPolyAt': WHATEVER THE INPUT: true; the input reads as it did. -/
def fnExactPolyAtSpec : ChangeSpec := { name := "fnExactPolyAt", fn := fun _ => fun
  | [d1, d2] => { results := [.lit (.bool true)], args := [d1, d2] }
  | _ => none }
def fnExactPolyAtRow : OpenClaim := { program := "ytlfnfalckfggkaa", sum := "afa83defaa69efacef809a9fad4dc9d9813903f0810c887cecaddc8d058b3804", func := "loop.example/g00348/laws.FnExactPolyAt", spec := "fnExactPolyAt", unfollowed := true, recurses := true, apart := false }
def FnExactPolyAtSaid : Prop := fnExactPolyAtRow.holds Try.pinned (OpenSpec.ofChange fnExactPolyAtSpec)

/-- ITS FALSE NEIGHBOUR: 'it returns false'. Refute it at one input. -/
def fnExactPolyAtWrong : ChangeSpec := { name := "fnExactPolyAt", fn := fun _ => fun
  | [d1, d2] => { results := [.lit (.bool false)], args := [d1, d2] }
  | _ => none }
def FnExactPolyAtWrongFalsely : Prop := fnExactPolyAtRow.holds Try.pinned (OpenSpec.ofChange fnExactPolyAtWrong)

/-- 'laws.FnExactCombine': WHATEVER THE INPUT: true; the input reads as it did. -/
def fnExactCombineSpec : ChangeSpec := { name := "fnExactCombine", fn := fun _ => fun
  | [d1, d2] => { results := [.lit (.bool true)], args := [d1, d2] }
  | _ => none }
def fnExactCombineRow : OpenClaim := { program := "ytlfnfalckfggkaa", sum := "afa83defaa69efacef809a9fad4dc9d9813903f0810c887cecaddc8d058b3804", func := "loop.example/g00348/laws.FnExactCombine", spec := "fnExactCombine", unfollowed := true, recurses := true, apart := false }
def FnExactCombineSaid : Prop := fnExactCombineRow.holds Try.pinned (OpenSpec.ofChange fnExactCombineSpec)

/-- ITS FALSE NEIGHBOUR: 'it returns false'. Refute it at one input. -/
def fnExactCombineWrong : ChangeSpec := { name := "fnExactCombine", fn := fun _ => fun
  | [d1, d2] => { results := [.lit (.bool false)], args := [d1, d2] }
  | _ => none }
def FnExactCombineWrongFalsely : Prop := fnExactCombineRow.holds Try.pinned (OpenSpec.ofChange fnExactCombineWrong)

/-- 'laws.FnExactEqAt': WHATEVER THE INPUT: true; the input reads as it did. -/
def fnExactEqAtSpec : ChangeSpec := { name := "fnExactEqAt", fn := fun _ => fun
  | [d1, d2] => { results := [.lit (.bool true)], args := [d1, d2] }
  | _ => none }
def fnExactEqAtRow : OpenClaim := { program := "ytlfnfalckfggkaa", sum := "afa83defaa69efacef809a9fad4dc9d9813903f0810c887cecaddc8d058b3804", func := "loop.example/g00348/laws.FnExactEqAt", spec := "fnExactEqAt", unfollowed := true, recurses := true, apart := false }
def FnExactEqAtSaid : Prop := fnExactEqAtRow.holds Try.pinned (OpenSpec.ofChange fnExactEqAtSpec)

/-- ITS FALSE NEIGHBOUR: 'it returns false'. Refute it at one input. -/
def fnExactEqAtWrong : ChangeSpec := { name := "fnExactEqAt", fn := fun _ => fun
  | [d1, d2] => { results := [.lit (.bool false)], args := [d1, d2] }
  | _ => none }
def FnExactEqAtWrongFalsely : Prop := fnExactEqAtRow.holds Try.pinned (OpenSpec.ofChange fnExactEqAtWrong)

/-- 'laws.FnExactFoldPair': WHATEVER THE INPUT: true; the input reads as it did. -/
def fnExactFoldPairSpec : ChangeSpec := { name := "fnExactFoldPair", fn := fun _ => fun
  | [d1, d2, d3, d4, d5] => { results := [.lit (.bool true)], args := [d1, d2, d3, d4, d5] }
  | _ => none }
def fnExactFoldPairRow : OpenClaim := { program := "ytlfnfalckfggkaa", sum := "afa83defaa69efacef809a9fad4dc9d9813903f0810c887cecaddc8d058b3804", func := "loop.example/g00348/laws.FnExactFoldPair", spec := "fnExactFoldPair", apart := false }
def FnExactFoldPairSaid : Prop := fnExactFoldPairRow.holds Try.pinned (OpenSpec.ofChange fnExactFoldPairSpec)

/-- ITS FALSE NEIGHBOUR: 'it returns false'. Refute it at one input. -/
def fnExactFoldPairWrong : ChangeSpec := { name := "fnExactFoldPair", fn := fun _ => fun
  | [d1, d2, d3, d4, d5] => { results := [.lit (.bool false)], args := [d1, d2, d3, d4, d5] }
  | _ => none }
def FnExactFoldPairWrongFalsely : Prop := fnExactFoldPairRow.holds Try.pinned (OpenSpec.ofChange fnExactFoldPairWrong)

/-- 'laws.FnExactEqTable': WHATEVER THE INPUT: true; the input reads as it did. -/
def fnExactEqTableSpec : ChangeSpec := { name := "fnExactEqTable", fn := fun _ => fun
  | [d] => { results := [.lit (.bool true)], args := [d] }
  | _ => none }
def fnExactEqTableRow : OpenClaim := { program := "ytlfnfalckfggkaa", sum := "afa83defaa69efacef809a9fad4dc9d9813903f0810c887cecaddc8d058b3804", func := "loop.example/g00348/laws.FnExactEqTable", spec := "fnExactEqTable", unfollowed := true, recurses := true, apart := false }
def FnExactEqTableSaid : Prop := fnExactEqTableRow.holds Try.pinned (OpenSpec.ofChange fnExactEqTableSpec)

/-- ITS FALSE NEIGHBOUR: 'it returns false'. Refute it at one input. -/
def fnExactEqTableWrong : ChangeSpec := { name := "fnExactEqTable", fn := fun _ => fun
  | [d] => { results := [.lit (.bool false)], args := [d] }
  | _ => none }
def FnExactEqTableWrongFalsely : Prop := fnExactEqTableRow.holds Try.pinned (OpenSpec.ofChange fnExactEqTableWrong)

/-- 'laws.FnExactCoefsOf': WHATEVER THE INPUT: true; the input reads as it did. -/
def fnExactCoefsOfSpec : ChangeSpec := { name := "fnExactCoefsOf", fn := fun _ => fun
  | [d] => { results := [.lit (.bool true)], args := [d] }
  | _ => none }
def fnExactCoefsOfRow : OpenClaim := { program := "ytlfnfalckfggkaa", sum := "afa83defaa69efacef809a9fad4dc9d9813903f0810c887cecaddc8d058b3804", func := "loop.example/g00348/laws.FnExactCoefsOf", spec := "fnExactCoefsOf", unfollowed := true, recurses := true, apart := false }
def FnExactCoefsOfSaid : Prop := fnExactCoefsOfRow.holds Try.pinned (OpenSpec.ofChange fnExactCoefsOfSpec)

/-- ITS FALSE NEIGHBOUR: 'it returns false'. Refute it at one input. -/
def fnExactCoefsOfWrong : ChangeSpec := { name := "fnExactCoefsOf", fn := fun _ => fun
  | [d] => { results := [.lit (.bool false)], args := [d] }
  | _ => none }
def FnExactCoefsOfWrongFalsely : Prop := fnExactCoefsOfRow.holds Try.pinned (OpenSpec.ofChange fnExactCoefsOfWrong)

/-- 'laws.FnExactTableOf': WHATEVER THE INPUT: true; the input reads as it did. -/
def fnExactTableOfSpec : ChangeSpec := { name := "fnExactTableOf", fn := fun _ => fun
  | [d] => { results := [.lit (.bool true)], args := [d] }
  | _ => none }
def fnExactTableOfRow : OpenClaim := { program := "ytlfnfalckfggkaa", sum := "afa83defaa69efacef809a9fad4dc9d9813903f0810c887cecaddc8d058b3804", func := "loop.example/g00348/laws.FnExactTableOf", spec := "fnExactTableOf", unfollowed := true, recurses := true, apart := false }
def FnExactTableOfSaid : Prop := fnExactTableOfRow.holds Try.pinned (OpenSpec.ofChange fnExactTableOfSpec)

/-- ITS FALSE NEIGHBOUR: 'it returns false'. Refute it at one input. -/
def fnExactTableOfWrong : ChangeSpec := { name := "fnExactTableOf", fn := fun _ => fun
  | [d] => { results := [.lit (.bool false)], args := [d] }
  | _ => none }
def FnExactTableOfWrongFalsely : Prop := fnExactTableOfRow.holds Try.pinned (OpenSpec.ofChange fnExactTableOfWrong)

/-- 'laws.FnExactLineAt': WHATEVER THE INPUT: true; the input reads as it did. -/
def fnExactLineAtSpec : ChangeSpec := { name := "fnExactLineAt", fn := fun _ => fun
  | [d1, d2] => { results := [.lit (.bool true)], args := [d1, d2] }
  | _ => none }
def fnExactLineAtRow : OpenClaim := { program := "ytlfnfalckfggkaa", sum := "afa83defaa69efacef809a9fad4dc9d9813903f0810c887cecaddc8d058b3804", func := "loop.example/g00348/laws.FnExactLineAt", spec := "fnExactLineAt", unfollowed := true, recurses := true, apart := false }
def FnExactLineAtSaid : Prop := fnExactLineAtRow.holds Try.pinned (OpenSpec.ofChange fnExactLineAtSpec)

/-- ITS FALSE NEIGHBOUR: 'it returns false'. Refute it at one input. -/
def fnExactLineAtWrong : ChangeSpec := { name := "fnExactLineAt", fn := fun _ => fun
  | [d1, d2] => { results := [.lit (.bool false)], args := [d1, d2] }
  | _ => none }
def FnExactLineAtWrongFalsely : Prop := fnExactLineAtRow.holds Try.pinned (OpenSpec.ofChange fnExactLineAtWrong)

/-- 'laws.FnExactFoldTable': WHATEVER THE INPUT: true; the input reads as it did. -/
def fnExactFoldTableSpec : ChangeSpec := { name := "fnExactFoldTable", fn := fun _ => fun
  | [d1, d2] => { results := [.lit (.bool true)], args := [d1, d2] }
  | _ => none }
def fnExactFoldTableRow : OpenClaim := { program := "ytlfnfalckfggkaa", sum := "afa83defaa69efacef809a9fad4dc9d9813903f0810c887cecaddc8d058b3804", func := "loop.example/g00348/laws.FnExactFoldTable", spec := "fnExactFoldTable", unfollowed := true, recurses := true, apart := false }
def FnExactFoldTableSaid : Prop := fnExactFoldTableRow.holds Try.pinned (OpenSpec.ofChange fnExactFoldTableSpec)

/-- ITS FALSE NEIGHBOUR: 'it returns false'. Refute it at one input. -/
def fnExactFoldTableWrong : ChangeSpec := { name := "fnExactFoldTable", fn := fun _ => fun
  | [d1, d2] => { results := [.lit (.bool false)], args := [d1, d2] }
  | _ => none }
def FnExactFoldTableWrongFalsely : Prop := fnExactFoldTableRow.holds Try.pinned (OpenSpec.ofChange fnExactFoldTableWrong)

/-- 'laws.FnExactTableAt': WHATEVER THE INPUT: true; the input reads as it did. -/
def fnExactTableAtSpec : ChangeSpec := { name := "fnExactTableAt", fn := fun _ => fun
  | [d1, d2] => { results := [.lit (.bool true)], args := [d1, d2] }
  | _ => none }
def fnExactTableAtRow : OpenClaim := { program := "ytlfnfalckfggkaa", sum := "afa83defaa69efacef809a9fad4dc9d9813903f0810c887cecaddc8d058b3804", func := "loop.example/g00348/laws.FnExactTableAt", spec := "fnExactTableAt", unfollowed := true, recurses := true, apart := false }
def FnExactTableAtSaid : Prop := fnExactTableAtRow.holds Try.pinned (OpenSpec.ofChange fnExactTableAtSpec)

/-- ITS FALSE NEIGHBOUR: 'it returns false'. Refute it at one input. -/
def fnExactTableAtWrong : ChangeSpec := { name := "fnExactTableAt", fn := fun _ => fun
  | [d1, d2] => { results := [.lit (.bool false)], args := [d1, d2] }
  | _ => none }
def FnExactTableAtWrongFalsely : Prop := fnExactTableAtRow.holds Try.pinned (OpenSpec.ofChange fnExactTableAtWrong)

/-- 'laws.FnEq': WHATEVER THE INPUT: true; the input reads as it did. -/
def fnEqSpec : ChangeSpec := { name := "fnEq", fn := fun _ => fun
  | [d1, d2] => { results := [.lit (.bool true)], args := [d1, d2] }
  | _ => none }
def fnEqRow : OpenClaim := { program := "ytlfnfalckfggkaa", sum := "afa83defaa69efacef809a9fad4dc9d9813903f0810c887cecaddc8d058b3804", func := "loop.example/g00348/laws.FnEq", spec := "fnEq", unfollowed := true, recurses := true, apart := false }
def FnEqSaid : Prop := fnEqRow.holds Try.pinned (OpenSpec.ofChange fnEqSpec)

/-- ITS FALSE NEIGHBOUR: 'it returns false'. Refute it at one input. -/
def fnEqWrong : ChangeSpec := { name := "fnEq", fn := fun _ => fun
  | [d1, d2] => { results := [.lit (.bool false)], args := [d1, d2] }
  | _ => none }
def FnEqWrongFalsely : Prop := fnEqRow.holds Try.pinned (OpenSpec.ofChange fnEqWrong)

/-- 'laws.FnTable': WHATEVER THE INPUT: true; the input reads as it did. -/
def fnTableSpec : ChangeSpec := { name := "fnTable", fn := fun _ => fun
  | [d1, d2] => { results := [.lit (.bool true)], args := [d1, d2] }
  | _ => none }
def fnTableRow : OpenClaim := { program := "ytlfnfalckfggkaa", sum := "afa83defaa69efacef809a9fad4dc9d9813903f0810c887cecaddc8d058b3804", func := "loop.example/g00348/laws.FnTable", spec := "fnTable", unfollowed := true, recurses := true, apart := false }
def FnTableSaid : Prop := fnTableRow.holds Try.pinned (OpenSpec.ofChange fnTableSpec)

/-- ITS FALSE NEIGHBOUR: 'it returns false'. Refute it at one input. -/
def fnTableWrong : ChangeSpec := { name := "fnTable", fn := fun _ => fun
  | [d1, d2] => { results := [.lit (.bool false)], args := [d1, d2] }
  | _ => none }
def FnTableWrongFalsely : Prop := fnTableRow.holds Try.pinned (OpenSpec.ofChange fnTableWrong)

/-- 'laws.FnCoefs': WHATEVER THE INPUT: true; the input reads as it did. -/
def fnCoefsSpec : ChangeSpec := { name := "fnCoefs", fn := fun _ => fun
  | [d1, d2] => { results := [.lit (.bool true)], args := [d1, d2] }
  | _ => none }
def fnCoefsRow : OpenClaim := { program := "ytlfnfalckfggkaa", sum := "afa83defaa69efacef809a9fad4dc9d9813903f0810c887cecaddc8d058b3804", func := "loop.example/g00348/laws.FnCoefs", spec := "fnCoefs", unfollowed := true, recurses := true, apart := false }
def FnCoefsSaid : Prop := fnCoefsRow.holds Try.pinned (OpenSpec.ofChange fnCoefsSpec)

/-- ITS FALSE NEIGHBOUR: 'it returns false'. Refute it at one input. -/
def fnCoefsWrong : ChangeSpec := { name := "fnCoefs", fn := fun _ => fun
  | [d1, d2] => { results := [.lit (.bool false)], args := [d1, d2] }
  | _ => none }
def FnCoefsWrongFalsely : Prop := fnCoefsRow.holds Try.pinned (OpenSpec.ofChange fnCoefsWrong)

/-- 'laws.FnLine': WHATEVER THE INPUT: true; the input reads as it did. -/
def fnLineSpec : ChangeSpec := { name := "fnLine", fn := fun _ => fun
  | [d1, d2] => { results := [.lit (.bool true)], args := [d1, d2] }
  | _ => none }
def fnLineRow : OpenClaim := { program := "ytlfnfalckfggkaa", sum := "afa83defaa69efacef809a9fad4dc9d9813903f0810c887cecaddc8d058b3804", func := "loop.example/g00348/laws.FnLine", spec := "fnLine", unfollowed := true, recurses := true, apart := false }
def FnLineSaid : Prop := fnLineRow.holds Try.pinned (OpenSpec.ofChange fnLineSpec)

/-- ITS FALSE NEIGHBOUR: 'it returns false'. Refute it at one input. -/
def fnLineWrong : ChangeSpec := { name := "fnLine", fn := fun _ => fun
  | [d1, d2] => { results := [.lit (.bool false)], args := [d1, d2] }
  | _ => none }
def FnLineWrongFalsely : Prop := fnLineRow.holds Try.pinned (OpenSpec.ofChange fnLineWrong)

/-- 'laws.FnExactSumOf': WHATEVER THE INPUT: true; the input reads as it did. -/
def fnExactSumOfSpec : ChangeSpec := { name := "fnExactSumOf", fn := fun _ => fun
  | [d1, d2] => { results := [.lit (.bool true)], args := [d1, d2] }
  | _ => none }
def fnExactSumOfRow : OpenClaim := { program := "ytlfnfalckfggkaa", sum := "afa83defaa69efacef809a9fad4dc9d9813903f0810c887cecaddc8d058b3804", func := "loop.example/g00348/laws.FnExactSumOf", spec := "fnExactSumOf", unfollowed := true, recurses := true, apart := false }
def FnExactSumOfSaid : Prop := fnExactSumOfRow.holds Try.pinned (OpenSpec.ofChange fnExactSumOfSpec)

/-- ITS FALSE NEIGHBOUR: 'it returns false'. Refute it at one input. -/
def fnExactSumOfWrong : ChangeSpec := { name := "fnExactSumOf", fn := fun _ => fun
  | [d1, d2] => { results := [.lit (.bool false)], args := [d1, d2] }
  | _ => none }
def FnExactSumOfWrongFalsely : Prop := fnExactSumOfRow.holds Try.pinned (OpenSpec.ofChange fnExactSumOfWrong)

/-- 'laws.FnExactFoldWord': WHATEVER THE INPUT: true; the input reads as it did. -/
def fnExactFoldWordSpec : ChangeSpec := { name := "fnExactFoldWord", fn := fun _ => fun
  | [d1, d2] => { results := [.lit (.bool true)], args := [d1, d2] }
  | _ => none }
def fnExactFoldWordRow : OpenClaim := { program := "ytlfnfalckfggkaa", sum := "afa83defaa69efacef809a9fad4dc9d9813903f0810c887cecaddc8d058b3804", func := "loop.example/g00348/laws.FnExactFoldWord", spec := "fnExactFoldWord", unfollowed := true, recurses := true, apart := false }
def FnExactFoldWordSaid : Prop := fnExactFoldWordRow.holds Try.pinned (OpenSpec.ofChange fnExactFoldWordSpec)

/-- ITS FALSE NEIGHBOUR: 'it returns false'. Refute it at one input. -/
def fnExactFoldWordWrong : ChangeSpec := { name := "fnExactFoldWord", fn := fun _ => fun
  | [d1, d2] => { results := [.lit (.bool false)], args := [d1, d2] }
  | _ => none }
def FnExactFoldWordWrongFalsely : Prop := fnExactFoldWordRow.holds Try.pinned (OpenSpec.ofChange fnExactFoldWordWrong)

/-- 'laws.FnExactNtt': WHATEVER THE INPUT: true; the input reads as it did. -/
def fnExactNttSpec : ChangeSpec := { name := "fnExactNtt", fn := fun _ => fun
  | [d] => { results := [.lit (.bool true)], args := [d] }
  | _ => none }
def fnExactNttRow : OpenClaim := { program := "ytlfnfalckfggkaa", sum := "afa83defaa69efacef809a9fad4dc9d9813903f0810c887cecaddc8d058b3804", func := "loop.example/g00348/laws.FnExactNtt", spec := "fnExactNtt", unfollowed := true, recurses := true, apart := false }
def FnExactNttSaid : Prop := fnExactNttRow.holds Try.pinned (OpenSpec.ofChange fnExactNttSpec)

/-- ITS FALSE NEIGHBOUR: 'it returns false'. Refute it at one input. -/
def fnExactNttWrong : ChangeSpec := { name := "fnExactNtt", fn := fun _ => fun
  | [d] => { results := [.lit (.bool false)], args := [d] }
  | _ => none }
def FnExactNttWrongFalsely : Prop := fnExactNttRow.holds Try.pinned (OpenSpec.ofChange fnExactNttWrong)

/-- 'laws.FnExactIsWord': WHATEVER THE INPUT: true; the input reads as it did. -/
def fnExactIsWordSpec : ChangeSpec := { name := "fnExactIsWord", fn := fun _ => fun
  | [d1, d2] => { results := [.lit (.bool true)], args := [d1, d2] }
  | _ => none }
def fnExactIsWordRow : OpenClaim := { program := "ytlfnfalckfggkaa", sum := "afa83defaa69efacef809a9fad4dc9d9813903f0810c887cecaddc8d058b3804", func := "loop.example/g00348/laws.FnExactIsWord", spec := "fnExactIsWord", unfollowed := true, recurses := true, apart := false }
def FnExactIsWordSaid : Prop := fnExactIsWordRow.holds Try.pinned (OpenSpec.ofChange fnExactIsWordSpec)

/-- ITS FALSE NEIGHBOUR: 'it returns false'. Refute it at one input. -/
def fnExactIsWordWrong : ChangeSpec := { name := "fnExactIsWord", fn := fun _ => fun
  | [d1, d2] => { results := [.lit (.bool false)], args := [d1, d2] }
  | _ => none }
def FnExactIsWordWrongFalsely : Prop := fnExactIsWordRow.holds Try.pinned (OpenSpec.ofChange fnExactIsWordWrong)

/-- 'laws.FnExactEncodeWord': WHATEVER THE INPUT: true; the input reads as it did. -/
def fnExactEncodeWordSpec : ChangeSpec := { name := "fnExactEncodeWord", fn := fun _ => fun
  | [d1, d2] => { results := [.lit (.bool true)], args := [d1, d2] }
  | _ => none }
def fnExactEncodeWordRow : OpenClaim := { program := "ytlfnfalckfggkaa", sum := "afa83defaa69efacef809a9fad4dc9d9813903f0810c887cecaddc8d058b3804", func := "loop.example/g00348/laws.FnExactEncodeWord", spec := "fnExactEncodeWord", unfollowed := true, recurses := true, apart := false }
def FnExactEncodeWordSaid : Prop := fnExactEncodeWordRow.holds Try.pinned (OpenSpec.ofChange fnExactEncodeWordSpec)

/-- ITS FALSE NEIGHBOUR: 'it returns false'. Refute it at one input. -/
def fnExactEncodeWordWrong : ChangeSpec := { name := "fnExactEncodeWord", fn := fun _ => fun
  | [d1, d2] => { results := [.lit (.bool false)], args := [d1, d2] }
  | _ => none }
def FnExactEncodeWordWrongFalsely : Prop := fnExactEncodeWordRow.holds Try.pinned (OpenSpec.ofChange fnExactEncodeWordWrong)

/-- 'laws.FnExactInverseNtt': WHATEVER THE INPUT: true; the input reads as it did. -/
def fnExactInverseNttSpec : ChangeSpec := { name := "fnExactInverseNtt", fn := fun _ => fun
  | [d] => { results := [.lit (.bool true)], args := [d] }
  | _ => none }
def fnExactInverseNttRow : OpenClaim := { program := "ytlfnfalckfggkaa", sum := "afa83defaa69efacef809a9fad4dc9d9813903f0810c887cecaddc8d058b3804", func := "loop.example/g00348/laws.FnExactInverseNtt", spec := "fnExactInverseNtt", unfollowed := true, recurses := true, apart := false }
def FnExactInverseNttSaid : Prop := fnExactInverseNttRow.holds Try.pinned (OpenSpec.ofChange fnExactInverseNttSpec)

/-- ITS FALSE NEIGHBOUR: 'it returns false'. Refute it at one input. -/
def fnExactInverseNttWrong : ChangeSpec := { name := "fnExactInverseNtt", fn := fun _ => fun
  | [d] => { results := [.lit (.bool false)], args := [d] }
  | _ => none }
def FnExactInverseNttWrongFalsely : Prop := fnExactInverseNttRow.holds Try.pinned (OpenSpec.ofChange fnExactInverseNttWrong)

/-- 'laws.FnExactRoundOf': WHATEVER THE INPUT: true; the input reads as it did. -/
def fnExactRoundOfSpec : ChangeSpec := { name := "fnExactRoundOf", fn := fun _ => fun
  | [d1, d2] => { results := [.lit (.bool true)], args := [d1, d2] }
  | _ => none }
def fnExactRoundOfRow : OpenClaim := { program := "ytlfnfalckfggkaa", sum := "afa83defaa69efacef809a9fad4dc9d9813903f0810c887cecaddc8d058b3804", func := "loop.example/g00348/laws.FnExactRoundOf", spec := "fnExactRoundOf", unfollowed := true, recurses := true, apart := false }
def FnExactRoundOfSaid : Prop := fnExactRoundOfRow.holds Try.pinned (OpenSpec.ofChange fnExactRoundOfSpec)

/-- ITS FALSE NEIGHBOUR: 'it returns false'. Refute it at one input. -/
def fnExactRoundOfWrong : ChangeSpec := { name := "fnExactRoundOf", fn := fun _ => fun
  | [d1, d2] => { results := [.lit (.bool false)], args := [d1, d2] }
  | _ => none }
def FnExactRoundOfWrongFalsely : Prop := fnExactRoundOfRow.holds Try.pinned (OpenSpec.ofChange fnExactRoundOfWrong)

/- THE SECOND FORM. 'bulk': how many values and letters a reading holds, each counted each time it is reached (what is shared counts as often as it is met; a slice's spare places count too). A statement '..UptoSaid' is the law's where the arguments, and the package variables that the reading takes, are together of bulk at most 1048576: NARROWER than '..Said'. Prove '..Said' where nothing that the law and all that it calls make is longer than what came in: it says more and counts as full. Else prove '..UptoSaid'. A law counts once. -/
mutual
def uptoBulk {H : Type} : DataW H → Nat
  | .lit (.string bytes) => bytes.length + 1
  | .lit _ => 1
  | .nil => 1
  | .ptr d => uptoBulk d + 1
  | .slice elems spare => uptoBulkAll elems + uptoBulkAll spare + 1
  | .agg parts => uptoBulkAll parts + 1
  | .iface _ d => uptoBulk d + 1
  | .map entries => uptoBulkEntries entries + 1
  | .held _ => 1
def uptoBulkAll {H : Type} : List (DataW H) → Nat
  | [] => 0
  | d :: r => uptoBulk d + uptoBulkAll r
def uptoBulkEntries {H : Type} : List (Lit × DataW H) → Nat
  | [] => 0
  | x :: r => uptoBulkEntry x + uptoBulkEntries r
def uptoBulkEntry {H : Type} : Lit × DataW H → Nat
  | (.string bytes, d) => bytes.length + uptoBulk d + 1
  | (_, d) => uptoBulk d + 1
 end
def uptoSmall : (H : Type) → List (DataW H) → Bool := fun _ ds => decide (uptoBulkAll ds ≤ 1048576)
def OpenSpec.upto (s : _root_.Go.ChangeSpec) : _root_.Go.OpenSpec := { _root_.Go.OpenSpec.ofChange s with cond := some uptoSmall }

/-- 'laws.FnExactSettingOK', WHERE WHAT IT READS IS OF BULK AT MOST 1048576: true; the input reads as it did. -/
def fnExactSettingOKUptoRow : OpenClaim := { program := "ytlfnfalckfggkaa", sum := "afa83defaa69efacef809a9fad4dc9d9813903f0810c887cecaddc8d058b3804", func := "loop.example/g00348/laws.FnExactSettingOK", spec := "fnExactSettingOK", apart := false, narrowed := true }
def FnExactSettingOKUptoSaid : Prop := fnExactSettingOKUptoRow.holds Try.pinned (OpenSpec.upto fnExactSettingOKSpec)

/-- 'laws.FnExactDegreeOf', WHERE WHAT IT READS IS OF BULK AT MOST 1048576: true; the input reads as it did. -/
def fnExactDegreeOfUptoRow : OpenClaim := { program := "ytlfnfalckfggkaa", sum := "afa83defaa69efacef809a9fad4dc9d9813903f0810c887cecaddc8d058b3804", func := "loop.example/g00348/laws.FnExactDegreeOf", spec := "fnExactDegreeOf", apart := false, narrowed := true }
def FnExactDegreeOfUptoSaid : Prop := fnExactDegreeOfUptoRow.holds Try.pinned (OpenSpec.upto fnExactDegreeOfSpec)

/-- 'laws.FnExactOpeningSize', WHERE WHAT IT READS IS OF BULK AT MOST 1048576: true; the input reads as it did. -/
def fnExactOpeningSizeUptoRow : OpenClaim := { program := "ytlfnfalckfggkaa", sum := "afa83defaa69efacef809a9fad4dc9d9813903f0810c887cecaddc8d058b3804", func := "loop.example/g00348/laws.FnExactOpeningSize", spec := "fnExactOpeningSize", apart := false, narrowed := true }
def FnExactOpeningSizeUptoSaid : Prop := fnExactOpeningSizeUptoRow.holds Try.pinned (OpenSpec.upto fnExactOpeningSizeSpec)

/-- 'laws.FnExactTableOK', WHERE WHAT IT READS IS OF BULK AT MOST 1048576: true; the input reads as it did. -/
def fnExactTableOKUptoRow : OpenClaim := { program := "ytlfnfalckfggkaa", sum := "afa83defaa69efacef809a9fad4dc9d9813903f0810c887cecaddc8d058b3804", func := "loop.example/g00348/laws.FnExactTableOK", spec := "fnExactTableOK", unfollowed := true, recurses := true, apart := false, narrowed := true }
def FnExactTableOKUptoSaid : Prop := fnExactTableOKUptoRow.holds Try.pinned (OpenSpec.upto fnExactTableOKSpec)

/-- 'laws.FnExtInverse', WHERE WHAT IT READS IS OF BULK AT MOST 1048576: true; the input reads as it did. -/
def fnExtInverseUptoRow : OpenClaim := { program := "ytlfnfalckfggkaa", sum := "afa83defaa69efacef809a9fad4dc9d9813903f0810c887cecaddc8d058b3804", func := "loop.example/g00348/laws.FnExtInverse", spec := "fnExtInverse", unfollowed := true, recurses := true, apart := false, narrowed := true }
def FnExtInverseUptoSaid : Prop := fnExtInverseUptoRow.holds Try.pinned (OpenSpec.upto fnExtInverseSpec)

/-- 'laws.FnExactPolyAt', WHERE WHAT IT READS IS OF BULK AT MOST 1048576: true; the input reads as it did. -/
def fnExactPolyAtUptoRow : OpenClaim := { program := "ytlfnfalckfggkaa", sum := "afa83defaa69efacef809a9fad4dc9d9813903f0810c887cecaddc8d058b3804", func := "loop.example/g00348/laws.FnExactPolyAt", spec := "fnExactPolyAt", unfollowed := true, recurses := true, apart := false, narrowed := true }
def FnExactPolyAtUptoSaid : Prop := fnExactPolyAtUptoRow.holds Try.pinned (OpenSpec.upto fnExactPolyAtSpec)

/-- 'laws.FnExactCombine', WHERE WHAT IT READS IS OF BULK AT MOST 1048576: true; the input reads as it did. -/
def fnExactCombineUptoRow : OpenClaim := { program := "ytlfnfalckfggkaa", sum := "afa83defaa69efacef809a9fad4dc9d9813903f0810c887cecaddc8d058b3804", func := "loop.example/g00348/laws.FnExactCombine", spec := "fnExactCombine", unfollowed := true, recurses := true, apart := false, narrowed := true }
def FnExactCombineUptoSaid : Prop := fnExactCombineUptoRow.holds Try.pinned (OpenSpec.upto fnExactCombineSpec)

/-- 'laws.FnExactEqAt', WHERE WHAT IT READS IS OF BULK AT MOST 1048576: true; the input reads as it did. -/
def fnExactEqAtUptoRow : OpenClaim := { program := "ytlfnfalckfggkaa", sum := "afa83defaa69efacef809a9fad4dc9d9813903f0810c887cecaddc8d058b3804", func := "loop.example/g00348/laws.FnExactEqAt", spec := "fnExactEqAt", unfollowed := true, recurses := true, apart := false, narrowed := true }
def FnExactEqAtUptoSaid : Prop := fnExactEqAtUptoRow.holds Try.pinned (OpenSpec.upto fnExactEqAtSpec)

/-- 'laws.FnExactFoldPair', WHERE WHAT IT READS IS OF BULK AT MOST 1048576: true; the input reads as it did. -/
def fnExactFoldPairUptoRow : OpenClaim := { program := "ytlfnfalckfggkaa", sum := "afa83defaa69efacef809a9fad4dc9d9813903f0810c887cecaddc8d058b3804", func := "loop.example/g00348/laws.FnExactFoldPair", spec := "fnExactFoldPair", apart := false, narrowed := true }
def FnExactFoldPairUptoSaid : Prop := fnExactFoldPairUptoRow.holds Try.pinned (OpenSpec.upto fnExactFoldPairSpec)

/-- 'laws.FnExactEqTable', WHERE WHAT IT READS IS OF BULK AT MOST 1048576: true; the input reads as it did. -/
def fnExactEqTableUptoRow : OpenClaim := { program := "ytlfnfalckfggkaa", sum := "afa83defaa69efacef809a9fad4dc9d9813903f0810c887cecaddc8d058b3804", func := "loop.example/g00348/laws.FnExactEqTable", spec := "fnExactEqTable", unfollowed := true, recurses := true, apart := false, narrowed := true }
def FnExactEqTableUptoSaid : Prop := fnExactEqTableUptoRow.holds Try.pinned (OpenSpec.upto fnExactEqTableSpec)

/-- 'laws.FnExactCoefsOf', WHERE WHAT IT READS IS OF BULK AT MOST 1048576: true; the input reads as it did. -/
def fnExactCoefsOfUptoRow : OpenClaim := { program := "ytlfnfalckfggkaa", sum := "afa83defaa69efacef809a9fad4dc9d9813903f0810c887cecaddc8d058b3804", func := "loop.example/g00348/laws.FnExactCoefsOf", spec := "fnExactCoefsOf", unfollowed := true, recurses := true, apart := false, narrowed := true }
def FnExactCoefsOfUptoSaid : Prop := fnExactCoefsOfUptoRow.holds Try.pinned (OpenSpec.upto fnExactCoefsOfSpec)

/-- 'laws.FnExactTableOf', WHERE WHAT IT READS IS OF BULK AT MOST 1048576: true; the input reads as it did. -/
def fnExactTableOfUptoRow : OpenClaim := { program := "ytlfnfalckfggkaa", sum := "afa83defaa69efacef809a9fad4dc9d9813903f0810c887cecaddc8d058b3804", func := "loop.example/g00348/laws.FnExactTableOf", spec := "fnExactTableOf", unfollowed := true, recurses := true, apart := false, narrowed := true }
def FnExactTableOfUptoSaid : Prop := fnExactTableOfUptoRow.holds Try.pinned (OpenSpec.upto fnExactTableOfSpec)

/-- 'laws.FnExactLineAt', WHERE WHAT IT READS IS OF BULK AT MOST 1048576: true; the input reads as it did. -/
def fnExactLineAtUptoRow : OpenClaim := { program := "ytlfnfalckfggkaa", sum := "afa83defaa69efacef809a9fad4dc9d9813903f0810c887cecaddc8d058b3804", func := "loop.example/g00348/laws.FnExactLineAt", spec := "fnExactLineAt", unfollowed := true, recurses := true, apart := false, narrowed := true }
def FnExactLineAtUptoSaid : Prop := fnExactLineAtUptoRow.holds Try.pinned (OpenSpec.upto fnExactLineAtSpec)

/-- 'laws.FnExactFoldTable', WHERE WHAT IT READS IS OF BULK AT MOST 1048576: true; the input reads as it did. -/
def fnExactFoldTableUptoRow : OpenClaim := { program := "ytlfnfalckfggkaa", sum := "afa83defaa69efacef809a9fad4dc9d9813903f0810c887cecaddc8d058b3804", func := "loop.example/g00348/laws.FnExactFoldTable", spec := "fnExactFoldTable", unfollowed := true, recurses := true, apart := false, narrowed := true }
def FnExactFoldTableUptoSaid : Prop := fnExactFoldTableUptoRow.holds Try.pinned (OpenSpec.upto fnExactFoldTableSpec)

/-- 'laws.FnExactTableAt', WHERE WHAT IT READS IS OF BULK AT MOST 1048576: true; the input reads as it did. -/
def fnExactTableAtUptoRow : OpenClaim := { program := "ytlfnfalckfggkaa", sum := "afa83defaa69efacef809a9fad4dc9d9813903f0810c887cecaddc8d058b3804", func := "loop.example/g00348/laws.FnExactTableAt", spec := "fnExactTableAt", unfollowed := true, recurses := true, apart := false, narrowed := true }
def FnExactTableAtUptoSaid : Prop := fnExactTableAtUptoRow.holds Try.pinned (OpenSpec.upto fnExactTableAtSpec)

/-- 'laws.FnEq', WHERE WHAT IT READS IS OF BULK AT MOST 1048576: true; the input reads as it did. -/
def fnEqUptoRow : OpenClaim := { program := "ytlfnfalckfggkaa", sum := "afa83defaa69efacef809a9fad4dc9d9813903f0810c887cecaddc8d058b3804", func := "loop.example/g00348/laws.FnEq", spec := "fnEq", unfollowed := true, recurses := true, apart := false, narrowed := true }
def FnEqUptoSaid : Prop := fnEqUptoRow.holds Try.pinned (OpenSpec.upto fnEqSpec)

/-- 'laws.FnTable', WHERE WHAT IT READS IS OF BULK AT MOST 1048576: true; the input reads as it did. -/
def fnTableUptoRow : OpenClaim := { program := "ytlfnfalckfggkaa", sum := "afa83defaa69efacef809a9fad4dc9d9813903f0810c887cecaddc8d058b3804", func := "loop.example/g00348/laws.FnTable", spec := "fnTable", unfollowed := true, recurses := true, apart := false, narrowed := true }
def FnTableUptoSaid : Prop := fnTableUptoRow.holds Try.pinned (OpenSpec.upto fnTableSpec)

/-- 'laws.FnCoefs', WHERE WHAT IT READS IS OF BULK AT MOST 1048576: true; the input reads as it did. -/
def fnCoefsUptoRow : OpenClaim := { program := "ytlfnfalckfggkaa", sum := "afa83defaa69efacef809a9fad4dc9d9813903f0810c887cecaddc8d058b3804", func := "loop.example/g00348/laws.FnCoefs", spec := "fnCoefs", unfollowed := true, recurses := true, apart := false, narrowed := true }
def FnCoefsUptoSaid : Prop := fnCoefsUptoRow.holds Try.pinned (OpenSpec.upto fnCoefsSpec)

/-- 'laws.FnLine', WHERE WHAT IT READS IS OF BULK AT MOST 1048576: true; the input reads as it did. -/
def fnLineUptoRow : OpenClaim := { program := "ytlfnfalckfggkaa", sum := "afa83defaa69efacef809a9fad4dc9d9813903f0810c887cecaddc8d058b3804", func := "loop.example/g00348/laws.FnLine", spec := "fnLine", unfollowed := true, recurses := true, apart := false, narrowed := true }
def FnLineUptoSaid : Prop := fnLineUptoRow.holds Try.pinned (OpenSpec.upto fnLineSpec)

/-- 'laws.FnExactSumOf', WHERE WHAT IT READS IS OF BULK AT MOST 1048576: true; the input reads as it did. -/
def fnExactSumOfUptoRow : OpenClaim := { program := "ytlfnfalckfggkaa", sum := "afa83defaa69efacef809a9fad4dc9d9813903f0810c887cecaddc8d058b3804", func := "loop.example/g00348/laws.FnExactSumOf", spec := "fnExactSumOf", unfollowed := true, recurses := true, apart := false, narrowed := true }
def FnExactSumOfUptoSaid : Prop := fnExactSumOfUptoRow.holds Try.pinned (OpenSpec.upto fnExactSumOfSpec)

/-- 'laws.FnExactFoldWord', WHERE WHAT IT READS IS OF BULK AT MOST 1048576: true; the input reads as it did. -/
def fnExactFoldWordUptoRow : OpenClaim := { program := "ytlfnfalckfggkaa", sum := "afa83defaa69efacef809a9fad4dc9d9813903f0810c887cecaddc8d058b3804", func := "loop.example/g00348/laws.FnExactFoldWord", spec := "fnExactFoldWord", unfollowed := true, recurses := true, apart := false, narrowed := true }
def FnExactFoldWordUptoSaid : Prop := fnExactFoldWordUptoRow.holds Try.pinned (OpenSpec.upto fnExactFoldWordSpec)

/-- 'laws.FnExactNtt', WHERE WHAT IT READS IS OF BULK AT MOST 1048576: true; the input reads as it did. -/
def fnExactNttUptoRow : OpenClaim := { program := "ytlfnfalckfggkaa", sum := "afa83defaa69efacef809a9fad4dc9d9813903f0810c887cecaddc8d058b3804", func := "loop.example/g00348/laws.FnExactNtt", spec := "fnExactNtt", unfollowed := true, recurses := true, apart := false, narrowed := true }
def FnExactNttUptoSaid : Prop := fnExactNttUptoRow.holds Try.pinned (OpenSpec.upto fnExactNttSpec)

/-- 'laws.FnExactIsWord', WHERE WHAT IT READS IS OF BULK AT MOST 1048576: true; the input reads as it did. -/
def fnExactIsWordUptoRow : OpenClaim := { program := "ytlfnfalckfggkaa", sum := "afa83defaa69efacef809a9fad4dc9d9813903f0810c887cecaddc8d058b3804", func := "loop.example/g00348/laws.FnExactIsWord", spec := "fnExactIsWord", unfollowed := true, recurses := true, apart := false, narrowed := true }
def FnExactIsWordUptoSaid : Prop := fnExactIsWordUptoRow.holds Try.pinned (OpenSpec.upto fnExactIsWordSpec)

/-- 'laws.FnExactEncodeWord', WHERE WHAT IT READS IS OF BULK AT MOST 1048576: true; the input reads as it did. -/
def fnExactEncodeWordUptoRow : OpenClaim := { program := "ytlfnfalckfggkaa", sum := "afa83defaa69efacef809a9fad4dc9d9813903f0810c887cecaddc8d058b3804", func := "loop.example/g00348/laws.FnExactEncodeWord", spec := "fnExactEncodeWord", unfollowed := true, recurses := true, apart := false, narrowed := true }
def FnExactEncodeWordUptoSaid : Prop := fnExactEncodeWordUptoRow.holds Try.pinned (OpenSpec.upto fnExactEncodeWordSpec)

/-- 'laws.FnExactInverseNtt', WHERE WHAT IT READS IS OF BULK AT MOST 1048576: true; the input reads as it did. -/
def fnExactInverseNttUptoRow : OpenClaim := { program := "ytlfnfalckfggkaa", sum := "afa83defaa69efacef809a9fad4dc9d9813903f0810c887cecaddc8d058b3804", func := "loop.example/g00348/laws.FnExactInverseNtt", spec := "fnExactInverseNtt", unfollowed := true, recurses := true, apart := false, narrowed := true }
def FnExactInverseNttUptoSaid : Prop := fnExactInverseNttUptoRow.holds Try.pinned (OpenSpec.upto fnExactInverseNttSpec)

/-- 'laws.FnExactRoundOf', WHERE WHAT IT READS IS OF BULK AT MOST 1048576: true; the input reads as it did. -/
def fnExactRoundOfUptoRow : OpenClaim := { program := "ytlfnfalckfggkaa", sum := "afa83defaa69efacef809a9fad4dc9d9813903f0810c887cecaddc8d058b3804", func := "loop.example/g00348/laws.FnExactRoundOf", spec := "fnExactRoundOf", unfollowed := true, recurses := true, apart := false, narrowed := true }
def FnExactRoundOfUptoSaid : Prop := fnExactRoundOfUptoRow.holds Try.pinned (OpenSpec.upto fnExactRoundOfSpec)

end Rows
end Go.Proofs.Ytlfnfalckfggkaa
