-- of the kit's printed words, those that this claim uses
import Derived.Test.YtgookagndlfehaaGreatVFootNe
/-! ### 54. Behind orders that were drawn quietly: the same facts at the world's new name; a flat row's foot -/
namespace Go.Proofs.YtgookagndlfehaaGreatW.PrintWords
open Go.RowKit
section
variable {w w' u:World} {m B g:Nat} {o:Obj} {row:Option Nat} {S:Nat→Prop} {a:Addr} {v:Value}
end
namespace Kd
section
variable {α:Type} {d:Kd α} {e base n m:Nat} {ok:Nat→Prop} {w w':World} {v:Value} {A:Option Addr} {xs:List α}
theorem zqb {g:Nat} (hd:∀ {W W':World} {x:α} {cs:List Value},d.K W x cs→d.K W' x cs) (h:d.C w A n xs) (hf:∀ ad,A=some ad→0<n→ad.block≠g):∀ W',zbn w W' g none→d.C W' A n xs:=by
  intro W' hk
  refine⟨h.1,h.2.1,fun hn=>?_⟩
  obtain⟨ad,he,hc⟩:=h.2.2 hn
  refine⟨ad,he,fun j p hj=>?_⟩
  obtain⟨cs,h1,h2,h3⟩:=hc j p hj
  exact⟨cs,h1,hd h2,fun i u hu=>ziz hk (h3 i u hu) (by rw [add_block];exact hf ad he hn)⟩
end
end Kd
end Go.Proofs.YtgookagndlfehaaGreatW.PrintWords
