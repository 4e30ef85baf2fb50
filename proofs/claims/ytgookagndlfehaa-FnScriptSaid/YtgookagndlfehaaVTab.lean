-- of the kit's printed words, those that this claim uses
import Derived.Test.YtgookagndlfehaaVLast
import Derived.Test.YtgookagndlfehaaVWords
/-! ### 50. A region's order in a table, made once a region: each step asks the table (numbers alone), not the operations -/
namespace Go.Proofs.YtgookagndlfehaaW.PrintLast
open Go.Proofs.YtgookagndlfehaaW.PrintWords (Aside0)
section
variable {md : Region.Mode} {ops : Array Oper} {T : Bool × List (List Nat × List Nat)} {l l' li lj lk : Array Bool} {ds : List Nat} {i j k : Nat}
end
end Go.Proofs.YtgookagndlfehaaW.PrintLast
