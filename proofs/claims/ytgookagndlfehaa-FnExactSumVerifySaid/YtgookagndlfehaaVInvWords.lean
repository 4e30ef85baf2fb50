-- of the kit's printed words, those that this claim uses
import Derived.Test.YtgookagndlfehaaVInv
import Derived.Test.YtgookagndlfehaaVFootNe
namespace Go.Proofs.YtgookagndlfehaaW.PrintWords
open Go.RowKit
end Go.Proofs.YtgookagndlfehaaW.PrintWords
namespace Go.Proofs.YtgookagndlfehaaW.PrintLast
section
variable {ops:Array Oper} {a:Act} {o og:Oper} {g:Nat} {t:Tmp} {u:Bool}
theorem zfc {v:Value} (h:a.tmps[t]?=some v):a.eval (.tmp t)=v:=by simp [Act.eval,h]
end
end Go.Proofs.YtgookagndlfehaaW.PrintLast
