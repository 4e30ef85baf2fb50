-- of the kit's printed words, those that this claim uses
import Derived.Test.YtgookagndlfehaaGreatVInv
import Derived.Test.YtgookagndlfehaaGreatVFootNe
namespace Go.Proofs.YtgookagndlfehaaGreatW.PrintWords
open Go.RowKit
end Go.Proofs.YtgookagndlfehaaGreatW.PrintWords
namespace Go.Proofs.YtgookagndlfehaaGreatW.PrintLast
section
variable {ops:Array Oper} {a:Act} {o og:Oper} {g:Nat} {t:Tmp} {u:Bool}
theorem zg4 {v:Value} (h:a.tmps[t]?=some v):a.eval (.tmp t)=v:=by simp [Act.eval,h]
end
end Go.Proofs.YtgookagndlfehaaGreatW.PrintLast
