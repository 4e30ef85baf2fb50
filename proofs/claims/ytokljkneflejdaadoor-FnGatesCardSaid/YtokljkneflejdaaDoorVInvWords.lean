-- of the kit's printed words, those that this claim uses
import Derived.Test.YtokljkneflejdaaDoorVInv
import Derived.Test.YtokljkneflejdaaDoorVFootNe
namespace Go.Proofs.YtokljkneflejdaaDoorW.PrintWords
open Go.RowKit
end Go.Proofs.YtokljkneflejdaaDoorW.PrintWords
namespace Go.Proofs.YtokljkneflejdaaDoorW.PrintLast
section
variable {ops : Array Oper} {a : Act} {o og : Oper} {g : Nat} {t : Tmp} {u : Bool}
theorem eval_of {v : Value} (h : a.tmps[t]? = some v) : a.eval (.tmp t) = v := by simp [Act.eval, h]
end
end Go.Proofs.YtokljkneflejdaaDoorW.PrintLast
