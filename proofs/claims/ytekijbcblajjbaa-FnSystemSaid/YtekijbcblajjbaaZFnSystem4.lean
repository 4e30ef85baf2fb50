/- Part 4 of the proof of FnSystem: what functions compute, shown step by step, and what that says (the claim's last text states the law). -/
import Derived.Test.YtekijbcblajjbaaProg
import Derived.Test.YtekijbcblajjbaaVMore
import Derived.Test.YtekijbcblajjbaaVWords
import Derived.Test.YtekijbcblajjbaaVLast
import Derived.Test.YtekijbcblajjbaaVTab
import Derived.Test.YtekijbcblajjbaaVQPut
import Derived.Test.YtekijbcblajjbaaVApart
import Derived.Test.YtekijbcblajjbaaVArr
import Derived.Test.YtekijbcblajjbaaVZeros
import Derived.Test.YtekijbcblajjbaaVFoot
import Derived.Test.YtekijbcblajjbaaVKept
import Derived.Test.YtekijbcblajjbaaVShare
import Derived.Test.YtekijbcblajjbaaVN
import Derived.Test.YtekijbcblajjbaaVRepsOne
import Derived.Test.YtekijbcblajjbaaVGuard
import Derived.Test.YtekijbcblajjbaaVNEv
import Derived.Test.YtekijbcblajjbaaRows
import Derived.JoinedOf
import Derived.WalkKit
import Derived.ProofKit
import Derived.Below
import Derived.Deep.Draws
import Derived.Deep.AppendLies
import Derived.Maps.AppendAt
import Derived.OwnWalk
import Derived.Laws.BytesArg
import Derived.Laws.MakeOwn
import Derived.Laws.OwnMore
import Derived.Deep.OwnRows
import Derived.Tactics
import Derived.Lib.ConvBytes
import Derived.Laws.Slices
import Derived.KernelRfl
import Derived.RowKit3
import Derived.Deep.LoopGhost
import Derived.Deep.QuietTactic
import Derived.BigQuiet
import Derived.WideLaws
import Derived.Deep.DeepCutAuto
import Derived.Deep.CutBlock
import Derived.Deep.RegionHeld3
import Derived.Laws.Rows
import Derived.Lib.AppendStr
import Derived.ArgAppend
import Derived.Laws.IdiomCopy
import Derived.OrdersHeld
import Derived.Laws.BitsLemmas
import Derived.RowKit
import Derived.Laws.CopyOwn
import Derived.StillTailTactics
import Derived.OpenShut
import Derived.ShutString
import Derived.ChangeOld
import Derived.SizedLaws
import Derived.Deep.Slices
import Derived.ChangeArms
import Derived.Test.YtekijbcblajjbaaZFnSystem3
section
namespace Go.Proofs.Ytekijbcblajjbaa.PT
open Go.RowKit Go.Proofs.YtekijbcblajjbaaW.PrintWords Go.Proofs.YtekijbcblajjbaaW.PrintLast Go.Proofs.YtekijbcblajjbaaW.PrintMore
attribute [local go_sem] max2_int min2_int max_two min_two max_three min_three max_four min_four   -- for this text's walks alone
set_option linter.unusedVariables false
set_option linter.unusedSimpArgs false

/-! ### laws_FnSystem: function 7 -/
mutual
def laws_FnSystem.j0 : Nat → List Int → List Int → Bool → Option (Bool)
 | 0, _, _, _ => none
 | k + 1, x0, x1, x39 => if x39 = true then (some true) else ((spec_SystemDrawn.f k x0).bind fun bt101 => ((spec_NumbersOf.f k x1 bt101.2.2.1).bind fun t114 => (if 0 ≤ (IntKind.u64.wrap (wrap64 (bt101.2.1 - 1))) then ((laws_at.f x1 0 (shl .i64 1 (IntKind.u64.wrap (wrap64 (bt101.2.1 - 1))))).bind fun t117 => ((spec_NumbersOf.f k x1 (wrap64 (1 + t117))).bind fun t118 => ((impl_VectorOf.f k bt101.1 bt101.2.1 bt101.2.2.1 bt101.2.2.2.1 bt101.2.2.2.2.1 bt101.2.2.2.2.2 t114 t118).bind fun bt121 => ((spec_VectorOf.f k bt101.1 bt101.2.1 bt101.2.2.1 bt101.2.2.2.1 bt101.2.2.2.2.1 bt101.2.2.2.2.2 t114 t118).bind fun bt125 => (if bt121.2 = 0 then ((laws_sameInts.f k bt121.1 bt125.1).bind fun t129 => (if t129 = true then (if 0 ≤ (IntKind.u64.wrap (bt101.2.1)) then (if (bt121.1.length : Int) = (shl .i64 1 (IntKind.u64.wrap (bt101.2.1))) then (if 0 < (bt121.1.length : Int) then (laws_FnSystem.j1 k bt121.1 ((rd bt121.1 0) != 1) bt101.1 bt101.2.1 bt101.2.2.1 bt101.2.2.2.1 bt101.2.2.2.2.1 bt101.2.2.2.2.2) else (none)) else (laws_FnSystem.j1 k bt121.1 true bt101.1 bt101.2.1 bt101.2.2.1 bt101.2.2.2.1 bt101.2.2.2.2.1 bt101.2.2.2.2.2)) else (none)) else (laws_FnSystem.j1 k bt121.1 true bt101.1 bt101.2.1 bt101.2.2.1 bt101.2.2.2.1 bt101.2.2.2.2.1 bt101.2.2.2.2.2))) else (laws_FnSystem.j1 k bt121.1 true bt101.1 bt101.2.1 bt101.2.2.1 bt101.2.2.2.1 bt101.2.2.2.2.1 bt101.2.2.2.2.2)))))) else (none))))
def laws_FnSystem.j1 : Nat → List Int → Bool → Int → Int → Int → List (S53) → List (S53) → List (S53) → Option (Bool)
 | 0, _, _, _, _, _, _, _, _ => none
 | k + 1, x8, x92, x114000, x114001, x114002, x114003, x114004, x114005 => if x92 = true then (some false) else ((impl_MulMatrix.f k x114003 x114000 x8).bind fun bt131 => ((impl_MulMatrix.f k x114004 x114000 x8).bind fun bt135 => ((impl_MulMatrix.f k x114005 x114000 x8).bind fun bt139 => (if bt131.2 = 0 then (if bt135.2 = 0 then (if bt139.2 = 0 then (if 0 ≤ (IntKind.u64.wrap (x114000)) then (if (bt131.1.length : Int) = (shl .i64 1 (IntKind.u64.wrap (x114000))) then (if (bt135.1.length : Int) = (bt131.1.length : Int) then (laws_FnSystem.j2 k x8 bt131.1 bt135.1 bt139.1 ((bt139.1.length : Int) != (bt131.1.length : Int)) x114000 x114001 x114002 x114003 x114004 x114005) else (laws_FnSystem.j2 k x8 bt131.1 bt135.1 bt139.1 true x114000 x114001 x114002 x114003 x114004 x114005)) else (laws_FnSystem.j2 k x8 bt131.1 bt135.1 bt139.1 true x114000 x114001 x114002 x114003 x114004 x114005)) else (none)) else (laws_FnSystem.j2 k x8 bt131.1 bt135.1 bt139.1 true x114000 x114001 x114002 x114003 x114004 x114005)) else (laws_FnSystem.j2 k x8 bt131.1 bt135.1 bt139.1 true x114000 x114001 x114002 x114003 x114004 x114005)) else (laws_FnSystem.j2 k x8 bt131.1 bt135.1 bt139.1 true x114000 x114001 x114002 x114003 x114004 x114005)))))
def laws_FnSystem.j2 : Nat → List Int → List Int → List Int → List Int → Bool → Int → Int → Int → List (S53) → List (S53) → List (S53) → Option (Bool)
 | 0, _, _, _, _, _, _, _, _, _, _, _ => none
 | k + 1, x8, x12, x14, x16, x152, x114000, x114001, x114002, x114003, x114004, x114005 => if x152 = true then (some false) else (laws_FnSystem.l0 k x8 x12 x14 x16 (-1) (wrap64 ((x12.length : Int) - 1)) x114000 x114001 x114002 x114003 x114004 x114005)
def laws_FnSystem.l0 : Nat → List Int → List Int → List Int → List Int → Int → Int → Int → Int → Int → List (S53) → List (S53) → List (S53) → Option (Bool)
 | 0, _, _, _, _, _, _, _, _, _, _, _, _ => none
 | k + 1, x8, x12, x14, x16, x18, x19, x114000, x114001, x114002, x114003, x114004, x114005 => if x19 ≥ 0 then (laws_FnSystem.l1 k x8 x12 x14 x16 x18 x19 0 0 x114000 x114001 x114002 x114003 x114004 x114005) else ((impl_Satisfied.f k x114000 x114001 x114002 x114003 x114004 x114005 x8).bind fun bt143 => ((impl_FailedRow.f k x114000 x114001 x114002 x114003 x114004 x114005 x8).bind fun bt145 => (if bt143.2 = 0 then (if (bt143.1 == (decide (x18 < 0))) = true then (if x18 < 0 then (if bt145.2 = 5 then ((impl_SystemOK.f k x114000 x114001 x114002 x114003 x114004 x114005).bind fun t147 => (some t147)) else (if x18 ≥ 0 then (if bt145.2 = 0 then (if bt145.1 = x18 then ((impl_SystemOK.f k x114000 x114001 x114002 x114003 x114004 x114005).bind fun t148 => (some t148)) else (some false)) else (some false)) else (some false))) else (if x18 ≥ 0 then (if bt145.2 = 0 then (if bt145.1 = x18 then ((impl_SystemOK.f k x114000 x114001 x114002 x114003 x114004 x114005).bind fun t149 => (some t149)) else (some false)) else (some false)) else (some false))) else (some false)) else (some false))))
def laws_FnSystem.l1 : Nat → List Int → List Int → List Int → List Int → Int → Int → Int → Int → Int → Int → Int → List (S53) → List (S53) → List (S53) → Option (Bool)
 | 0, _, _, _, _, _, _, _, _, _, _, _, _, _, _ => none
 | k + 1, x8, x12, x14, x16, x18, x19, x20, x21, x114000, x114001, x114002, x114003, x114004, x114005 => if x21 < (x114003.length : Int) then (if 0 ≤ x21 then (if ((rd_T53 x114003 x21).f0) = x19 then (if 0 ≤ ((rd_T53 x114003 x21).f1) then (if ((rd_T53 x114003 x21).f1) < (x8.length : Int) then ((impl_Mul.f ((rd_T53 x114003 x21).f2) (rd x8 ((rd_T53 x114003 x21).f1))).bind fun bt154 => ((impl_Add.f x20 bt154.1).bind fun bt156 => (if bt154.2 = 0 then (if bt156.2 = 0 then (laws_FnSystem.l1 k x8 x12 x14 x16 x18 x19 bt156.1 (wrap64 (x21 + 1)) x114000 x114001 x114002 x114003 x114004 x114005) else (some false)) else (some false)))) else (none)) else (none)) else (laws_FnSystem.l1 k x8 x12 x14 x16 x18 x19 x20 (wrap64 (x21 + 1)) x114000 x114001 x114002 x114003 x114004 x114005)) else (none)) else (if 0 ≤ x19 then (if x19 < (x12.length : Int) then (if x19 < (x14.length : Int) then ((impl_Mul.f (rd x12 x19) (rd x14 x19)).bind fun bt160 => (if bt160.2 = 0 then (laws_FnSystem.j5 k x8 x12 x14 x16 x18 x19 bt160.1 (x20 != (rd x12 x19)) x114000 x114001 x114002 x114003 x114004 x114005) else (laws_FnSystem.j5 k x8 x12 x14 x16 x18 x19 bt160.1 true x114000 x114001 x114002 x114003 x114004 x114005))) else (none)) else (none)) else (none))
def laws_FnSystem.j5 : Nat → List Int → List Int → List Int → List Int → Int → Int → Int → Bool → Int → Int → Int → List (S53) → List (S53) → List (S53) → Option (Bool)
 | 0, _, _, _, _, _, _, _, _, _, _, _, _, _, _ => none
 | k + 1, x8, x12, x14, x16, x18, x19, x26, x228, x114000, x114001, x114002, x114003, x114004, x114005 => if x228 = true then (some false) else (if 0 ≤ x19 then (if x19 < (x16.length : Int) then (if x26 = (rd x16 x19) then (laws_FnSystem.l0 k x8 x12 x14 x16 x18 (wrap64 (x19 - 1)) x114000 x114001 x114002 x114003 x114004 x114005) else (laws_FnSystem.l0 k x8 x12 x14 x16 x19 (wrap64 (x19 - 1)) x114000 x114001 x114002 x114003 x114004 x114005)) else (none)) else (none))
end
def laws_FnSystem.f (k : Nat) (l0 : List Int) (l1 : List Int) : Option (Bool) := if (l0.length : Int) > 1048576 then (laws_FnSystem.j0 k l0 l1 true) else (laws_FnSystem.j0 k l0 l1 (decide ((l1.length : Int) > 1048576)))
theorem laws_FnSystem.mono_l : ∀ k, (∀ y0 y1 y2, LeO (laws_FnSystem.j0 k y0 y1 y2) (laws_FnSystem.j0 (k + 1) y0 y1 y2)) ∧ (∀ y0 y1 y2 y3 y4 y5 y6 y7, LeO (laws_FnSystem.j1 k y0 y1 y2 y3 y4 y5 y6 y7) (laws_FnSystem.j1 (k + 1) y0 y1 y2 y3 y4 y5 y6 y7)) ∧ (∀ y0 y1 y2 y3 y4 y5 y6 y7 y8 y9 y10, LeO (laws_FnSystem.j2 k y0 y1 y2 y3 y4 y5 y6 y7 y8 y9 y10) (laws_FnSystem.j2 (k + 1) y0 y1 y2 y3 y4 y5 y6 y7 y8 y9 y10)) ∧ (∀ y0 y1 y2 y3 y4 y5 y6 y7 y8 y9 y10 y11, LeO (laws_FnSystem.l0 k y0 y1 y2 y3 y4 y5 y6 y7 y8 y9 y10 y11) (laws_FnSystem.l0 (k + 1) y0 y1 y2 y3 y4 y5 y6 y7 y8 y9 y10 y11)) ∧ (∀ y0 y1 y2 y3 y4 y5 y6 y7 y8 y9 y10 y11 y12 y13, LeO (laws_FnSystem.l1 k y0 y1 y2 y3 y4 y5 y6 y7 y8 y9 y10 y11 y12 y13) (laws_FnSystem.l1 (k + 1) y0 y1 y2 y3 y4 y5 y6 y7 y8 y9 y10 y11 y12 y13)) ∧ (∀ y0 y1 y2 y3 y4 y5 y6 y7 y8 y9 y10 y11 y12 y13, LeO (laws_FnSystem.j5 k y0 y1 y2 y3 y4 y5 y6 y7 y8 y9 y10 y11 y12 y13) (laws_FnSystem.j5 (k + 1) y0 y1 y2 y3 y4 y5 y6 y7 y8 y9 y10 y11 y12 y13))
 | 0 => ⟨fun _ _ _ r h => by simp [laws_FnSystem.j0] at h, fun _ _ _ _ _ _ _ _ r h => by simp [laws_FnSystem.j1] at h, fun _ _ _ _ _ _ _ _ _ _ _ r h => by simp [laws_FnSystem.j2] at h, fun _ _ _ _ _ _ _ _ _ _ _ _ r h => by simp [laws_FnSystem.l0] at h, fun _ _ _ _ _ _ _ _ _ _ _ _ _ _ r h => by simp [laws_FnSystem.l1] at h, fun _ _ _ _ _ _ _ _ _ _ _ _ _ _ r h => by simp [laws_FnSystem.j5] at h⟩
 | k + 1 => by
  obtain ⟨ih0, ih1, ih2, ih3, ih4, ih5⟩ := laws_FnSystem.mono_l k
  refine ⟨?_, ?_, ?_, ?_, ?_, ?_⟩
  ·
   intro y0 y1 y2
   unfold laws_FnSystem.j0
   repeat' first
   | (with_reducible exact ih0 _ _ _)
   | (with_reducible exact ih1 _ _ _ _ _ _ _ _)
   | (with_reducible exact ih2 _ _ _ _ _ _ _ _ _ _ _)
   | (with_reducible exact ih3 _ _ _ _ _ _ _ _ _ _ _ _)
   | (with_reducible exact ih4 _ _ _ _ _ _ _ _ _ _ _ _ _ _)
   | (with_reducible exact ih5 _ _ _ _ _ _ _ _ _ _ _ _ _ _)
   | (with_reducible exact impl_FailedRow.mono _ _ _ _ _ _ _ _)
   | (with_reducible exact impl_MulMatrix.mono _ _ _ _)
   | (with_reducible exact impl_Satisfied.mono _ _ _ _ _ _ _ _)
   | (with_reducible exact impl_SystemOK.mono _ _ _ _ _ _ _)
   | (with_reducible exact impl_VectorOf.mono _ _ _ _ _ _ _ _ _)
   | (with_reducible exact laws_sameInts.mono _ _ _)
   | (with_reducible exact spec_NumbersOf.mono _ _ _)
   | (with_reducible exact spec_SystemDrawn.mono _ _)
   | (with_reducible exact spec_VectorOf.mono _ _ _ _ _ _ _ _ _)
   | (with_reducible exact LeO.refl _)
   | (with_reducible exact LeO.none _)
   | (with_reducible refine LeO.ite ?_ ?_)
   | (with_reducible refine LeO.bind ?_ (fun _ => ?_))
   | exact ih0 _ _ _
   | exact ih1 _ _ _ _ _ _ _ _
   | exact ih2 _ _ _ _ _ _ _ _ _ _ _
   | exact ih3 _ _ _ _ _ _ _ _ _ _ _ _
   | exact ih4 _ _ _ _ _ _ _ _ _ _ _ _ _ _
   | exact ih5 _ _ _ _ _ _ _ _ _ _ _ _ _ _
   | exact impl_FailedRow.mono _ _ _ _ _ _ _ _
   | exact impl_MulMatrix.mono _ _ _ _
   | exact impl_Satisfied.mono _ _ _ _ _ _ _ _
   | exact impl_SystemOK.mono _ _ _ _ _ _ _
   | exact impl_VectorOf.mono _ _ _ _ _ _ _ _ _
   | exact laws_sameInts.mono _ _ _
   | exact spec_NumbersOf.mono _ _ _
   | exact spec_SystemDrawn.mono _ _
   | exact spec_VectorOf.mono _ _ _ _ _ _ _ _ _
   | exact LeO.none _
   | refine LeO.ite ?_ ?_
   | refine LeO.bind ?_ (fun _ => ?_)
  ·
   intro y0 y1 y2 y3 y4 y5 y6 y7
   unfold laws_FnSystem.j1
   repeat' first
   | (with_reducible exact ih0 _ _ _)
   | (with_reducible exact ih1 _ _ _ _ _ _ _ _)
   | (with_reducible exact ih2 _ _ _ _ _ _ _ _ _ _ _)
   | (with_reducible exact ih3 _ _ _ _ _ _ _ _ _ _ _ _)
   | (with_reducible exact ih4 _ _ _ _ _ _ _ _ _ _ _ _ _ _)
   | (with_reducible exact ih5 _ _ _ _ _ _ _ _ _ _ _ _ _ _)
   | (with_reducible exact impl_FailedRow.mono _ _ _ _ _ _ _ _)
   | (with_reducible exact impl_MulMatrix.mono _ _ _ _)
   | (with_reducible exact impl_Satisfied.mono _ _ _ _ _ _ _ _)
   | (with_reducible exact impl_SystemOK.mono _ _ _ _ _ _ _)
   | (with_reducible exact impl_VectorOf.mono _ _ _ _ _ _ _ _ _)
   | (with_reducible exact laws_sameInts.mono _ _ _)
   | (with_reducible exact spec_NumbersOf.mono _ _ _)
   | (with_reducible exact spec_SystemDrawn.mono _ _)
   | (with_reducible exact spec_VectorOf.mono _ _ _ _ _ _ _ _ _)
   | (with_reducible exact LeO.refl _)
   | (with_reducible exact LeO.none _)
   | (with_reducible refine LeO.ite ?_ ?_)
   | (with_reducible refine LeO.bind ?_ (fun _ => ?_))
   | exact ih0 _ _ _
   | exact ih1 _ _ _ _ _ _ _ _
   | exact ih2 _ _ _ _ _ _ _ _ _ _ _
   | exact ih3 _ _ _ _ _ _ _ _ _ _ _ _
   | exact ih4 _ _ _ _ _ _ _ _ _ _ _ _ _ _
   | exact ih5 _ _ _ _ _ _ _ _ _ _ _ _ _ _
   | exact impl_FailedRow.mono _ _ _ _ _ _ _ _
   | exact impl_MulMatrix.mono _ _ _ _
   | exact impl_Satisfied.mono _ _ _ _ _ _ _ _
   | exact impl_SystemOK.mono _ _ _ _ _ _ _
   | exact impl_VectorOf.mono _ _ _ _ _ _ _ _ _
   | exact laws_sameInts.mono _ _ _
   | exact spec_NumbersOf.mono _ _ _
   | exact spec_SystemDrawn.mono _ _
   | exact spec_VectorOf.mono _ _ _ _ _ _ _ _ _
   | exact LeO.none _
   | refine LeO.ite ?_ ?_
   | refine LeO.bind ?_ (fun _ => ?_)
  ·
   intro y0 y1 y2 y3 y4 y5 y6 y7 y8 y9 y10
   unfold laws_FnSystem.j2
   repeat' first
   | (with_reducible exact ih0 _ _ _)
   | (with_reducible exact ih1 _ _ _ _ _ _ _ _)
   | (with_reducible exact ih2 _ _ _ _ _ _ _ _ _ _ _)
   | (with_reducible exact ih3 _ _ _ _ _ _ _ _ _ _ _ _)
   | (with_reducible exact ih4 _ _ _ _ _ _ _ _ _ _ _ _ _ _)
   | (with_reducible exact ih5 _ _ _ _ _ _ _ _ _ _ _ _ _ _)
   | (with_reducible exact impl_FailedRow.mono _ _ _ _ _ _ _ _)
   | (with_reducible exact impl_MulMatrix.mono _ _ _ _)
   | (with_reducible exact impl_Satisfied.mono _ _ _ _ _ _ _ _)
   | (with_reducible exact impl_SystemOK.mono _ _ _ _ _ _ _)
   | (with_reducible exact impl_VectorOf.mono _ _ _ _ _ _ _ _ _)
   | (with_reducible exact laws_sameInts.mono _ _ _)
   | (with_reducible exact spec_NumbersOf.mono _ _ _)
   | (with_reducible exact spec_SystemDrawn.mono _ _)
   | (with_reducible exact spec_VectorOf.mono _ _ _ _ _ _ _ _ _)
   | (with_reducible exact LeO.refl _)
   | (with_reducible exact LeO.none _)
   | (with_reducible refine LeO.ite ?_ ?_)
   | (with_reducible refine LeO.bind ?_ (fun _ => ?_))
   | exact ih0 _ _ _
   | exact ih1 _ _ _ _ _ _ _ _
   | exact ih2 _ _ _ _ _ _ _ _ _ _ _
   | exact ih3 _ _ _ _ _ _ _ _ _ _ _ _
   | exact ih4 _ _ _ _ _ _ _ _ _ _ _ _ _ _
   | exact ih5 _ _ _ _ _ _ _ _ _ _ _ _ _ _
   | exact impl_FailedRow.mono _ _ _ _ _ _ _ _
   | exact impl_MulMatrix.mono _ _ _ _
   | exact impl_Satisfied.mono _ _ _ _ _ _ _ _
   | exact impl_SystemOK.mono _ _ _ _ _ _ _
   | exact impl_VectorOf.mono _ _ _ _ _ _ _ _ _
   | exact laws_sameInts.mono _ _ _
   | exact spec_NumbersOf.mono _ _ _
   | exact spec_SystemDrawn.mono _ _
   | exact spec_VectorOf.mono _ _ _ _ _ _ _ _ _
   | exact LeO.none _
   | refine LeO.ite ?_ ?_
   | refine LeO.bind ?_ (fun _ => ?_)
  ·
   intro y0 y1 y2 y3 y4 y5 y6 y7 y8 y9 y10 y11
   unfold laws_FnSystem.l0
   repeat' first
   | (with_reducible exact ih0 _ _ _)
   | (with_reducible exact ih1 _ _ _ _ _ _ _ _)
   | (with_reducible exact ih2 _ _ _ _ _ _ _ _ _ _ _)
   | (with_reducible exact ih3 _ _ _ _ _ _ _ _ _ _ _ _)
   | (with_reducible exact ih4 _ _ _ _ _ _ _ _ _ _ _ _ _ _)
   | (with_reducible exact ih5 _ _ _ _ _ _ _ _ _ _ _ _ _ _)
   | (with_reducible exact impl_FailedRow.mono _ _ _ _ _ _ _ _)
   | (with_reducible exact impl_MulMatrix.mono _ _ _ _)
   | (with_reducible exact impl_Satisfied.mono _ _ _ _ _ _ _ _)
   | (with_reducible exact impl_SystemOK.mono _ _ _ _ _ _ _)
   | (with_reducible exact impl_VectorOf.mono _ _ _ _ _ _ _ _ _)
   | (with_reducible exact laws_sameInts.mono _ _ _)
   | (with_reducible exact spec_NumbersOf.mono _ _ _)
   | (with_reducible exact spec_SystemDrawn.mono _ _)
   | (with_reducible exact spec_VectorOf.mono _ _ _ _ _ _ _ _ _)
   | (with_reducible exact LeO.refl _)
   | (with_reducible exact LeO.none _)
   | (with_reducible refine LeO.ite ?_ ?_)
   | (with_reducible refine LeO.bind ?_ (fun _ => ?_))
   | exact ih0 _ _ _
   | exact ih1 _ _ _ _ _ _ _ _
   | exact ih2 _ _ _ _ _ _ _ _ _ _ _
   | exact ih3 _ _ _ _ _ _ _ _ _ _ _ _
   | exact ih4 _ _ _ _ _ _ _ _ _ _ _ _ _ _
   | exact ih5 _ _ _ _ _ _ _ _ _ _ _ _ _ _
   | exact impl_FailedRow.mono _ _ _ _ _ _ _ _
   | exact impl_MulMatrix.mono _ _ _ _
   | exact impl_Satisfied.mono _ _ _ _ _ _ _ _
   | exact impl_SystemOK.mono _ _ _ _ _ _ _
   | exact impl_VectorOf.mono _ _ _ _ _ _ _ _ _
   | exact laws_sameInts.mono _ _ _
   | exact spec_NumbersOf.mono _ _ _
   | exact spec_SystemDrawn.mono _ _
   | exact spec_VectorOf.mono _ _ _ _ _ _ _ _ _
   | exact LeO.none _
   | refine LeO.ite ?_ ?_
   | refine LeO.bind ?_ (fun _ => ?_)
  ·
   intro y0 y1 y2 y3 y4 y5 y6 y7 y8 y9 y10 y11 y12 y13
   unfold laws_FnSystem.l1
   repeat' first
   | (with_reducible exact ih0 _ _ _)
   | (with_reducible exact ih1 _ _ _ _ _ _ _ _)
   | (with_reducible exact ih2 _ _ _ _ _ _ _ _ _ _ _)
   | (with_reducible exact ih3 _ _ _ _ _ _ _ _ _ _ _ _)
   | (with_reducible exact ih4 _ _ _ _ _ _ _ _ _ _ _ _ _ _)
   | (with_reducible exact ih5 _ _ _ _ _ _ _ _ _ _ _ _ _ _)
   | (with_reducible exact impl_FailedRow.mono _ _ _ _ _ _ _ _)
   | (with_reducible exact impl_MulMatrix.mono _ _ _ _)
   | (with_reducible exact impl_Satisfied.mono _ _ _ _ _ _ _ _)
   | (with_reducible exact impl_SystemOK.mono _ _ _ _ _ _ _)
   | (with_reducible exact impl_VectorOf.mono _ _ _ _ _ _ _ _ _)
   | (with_reducible exact laws_sameInts.mono _ _ _)
   | (with_reducible exact spec_NumbersOf.mono _ _ _)
   | (with_reducible exact spec_SystemDrawn.mono _ _)
   | (with_reducible exact spec_VectorOf.mono _ _ _ _ _ _ _ _ _)
   | (with_reducible exact LeO.refl _)
   | (with_reducible exact LeO.none _)
   | (with_reducible refine LeO.ite ?_ ?_)
   | (with_reducible refine LeO.bind ?_ (fun _ => ?_))
   | exact ih0 _ _ _
   | exact ih1 _ _ _ _ _ _ _ _
   | exact ih2 _ _ _ _ _ _ _ _ _ _ _
   | exact ih3 _ _ _ _ _ _ _ _ _ _ _ _
   | exact ih4 _ _ _ _ _ _ _ _ _ _ _ _ _ _
   | exact ih5 _ _ _ _ _ _ _ _ _ _ _ _ _ _
   | exact impl_FailedRow.mono _ _ _ _ _ _ _ _
   | exact impl_MulMatrix.mono _ _ _ _
   | exact impl_Satisfied.mono _ _ _ _ _ _ _ _
   | exact impl_SystemOK.mono _ _ _ _ _ _ _
   | exact impl_VectorOf.mono _ _ _ _ _ _ _ _ _
   | exact laws_sameInts.mono _ _ _
   | exact spec_NumbersOf.mono _ _ _
   | exact spec_SystemDrawn.mono _ _
   | exact spec_VectorOf.mono _ _ _ _ _ _ _ _ _
   | exact LeO.none _
   | refine LeO.ite ?_ ?_
   | refine LeO.bind ?_ (fun _ => ?_)
  ·
   intro y0 y1 y2 y3 y4 y5 y6 y7 y8 y9 y10 y11 y12 y13
   unfold laws_FnSystem.j5
   repeat' first
   | (with_reducible exact ih0 _ _ _)
   | (with_reducible exact ih1 _ _ _ _ _ _ _ _)
   | (with_reducible exact ih2 _ _ _ _ _ _ _ _ _ _ _)
   | (with_reducible exact ih3 _ _ _ _ _ _ _ _ _ _ _ _)
   | (with_reducible exact ih4 _ _ _ _ _ _ _ _ _ _ _ _ _ _)
   | (with_reducible exact ih5 _ _ _ _ _ _ _ _ _ _ _ _ _ _)
   | (with_reducible exact impl_FailedRow.mono _ _ _ _ _ _ _ _)
   | (with_reducible exact impl_MulMatrix.mono _ _ _ _)
   | (with_reducible exact impl_Satisfied.mono _ _ _ _ _ _ _ _)
   | (with_reducible exact impl_SystemOK.mono _ _ _ _ _ _ _)
   | (with_reducible exact impl_VectorOf.mono _ _ _ _ _ _ _ _ _)
   | (with_reducible exact laws_sameInts.mono _ _ _)
   | (with_reducible exact spec_NumbersOf.mono _ _ _)
   | (with_reducible exact spec_SystemDrawn.mono _ _)
   | (with_reducible exact spec_VectorOf.mono _ _ _ _ _ _ _ _ _)
   | (with_reducible exact LeO.refl _)
   | (with_reducible exact LeO.none _)
   | (with_reducible refine LeO.ite ?_ ?_)
   | (with_reducible refine LeO.bind ?_ (fun _ => ?_))
   | exact ih0 _ _ _
   | exact ih1 _ _ _ _ _ _ _ _
   | exact ih2 _ _ _ _ _ _ _ _ _ _ _
   | exact ih3 _ _ _ _ _ _ _ _ _ _ _ _
   | exact ih4 _ _ _ _ _ _ _ _ _ _ _ _ _ _
   | exact ih5 _ _ _ _ _ _ _ _ _ _ _ _ _ _
   | exact impl_FailedRow.mono _ _ _ _ _ _ _ _
   | exact impl_MulMatrix.mono _ _ _ _
   | exact impl_Satisfied.mono _ _ _ _ _ _ _ _
   | exact impl_SystemOK.mono _ _ _ _ _ _ _
   | exact impl_VectorOf.mono _ _ _ _ _ _ _ _ _
   | exact laws_sameInts.mono _ _ _
   | exact spec_NumbersOf.mono _ _ _
   | exact spec_SystemDrawn.mono _ _
   | exact spec_VectorOf.mono _ _ _ _ _ _ _ _ _
   | exact LeO.none _
   | refine LeO.ite ?_ ?_
   | refine LeO.bind ?_ (fun _ => ?_)
theorem laws_FnSystem.mono : ∀ a0 a1 k, LeO (laws_FnSystem.f k a0 a1) (laws_FnSystem.f (k + 1) a0 a1) := by
 intro a0 a1 k
 obtain ⟨ih0, ih1, ih2, ih3, ih4, ih5⟩ := laws_FnSystem.mono_l k
 unfold laws_FnSystem.f
 repeat' first
   | (with_reducible exact ih0 _ _ _)
   | (with_reducible exact ih1 _ _ _ _ _ _ _ _)
   | (with_reducible exact ih2 _ _ _ _ _ _ _ _ _ _ _)
   | (with_reducible exact ih3 _ _ _ _ _ _ _ _ _ _ _ _)
   | (with_reducible exact ih4 _ _ _ _ _ _ _ _ _ _ _ _ _ _)
   | (with_reducible exact ih5 _ _ _ _ _ _ _ _ _ _ _ _ _ _)
   | (with_reducible exact impl_FailedRow.mono _ _ _ _ _ _ _ _)
   | (with_reducible exact impl_MulMatrix.mono _ _ _ _)
   | (with_reducible exact impl_Satisfied.mono _ _ _ _ _ _ _ _)
   | (with_reducible exact impl_SystemOK.mono _ _ _ _ _ _ _)
   | (with_reducible exact impl_VectorOf.mono _ _ _ _ _ _ _ _ _)
   | (with_reducible exact laws_sameInts.mono _ _ _)
   | (with_reducible exact spec_NumbersOf.mono _ _ _)
   | (with_reducible exact spec_SystemDrawn.mono _ _)
   | (with_reducible exact spec_VectorOf.mono _ _ _ _ _ _ _ _ _)
   | (with_reducible exact LeO.refl _)
   | (with_reducible exact LeO.none _)
   | (with_reducible refine LeO.ite ?_ ?_)
   | (with_reducible refine LeO.bind ?_ (fun _ => ?_))
   | exact ih0 _ _ _
   | exact ih1 _ _ _ _ _ _ _ _
   | exact ih2 _ _ _ _ _ _ _ _ _ _ _
   | exact ih3 _ _ _ _ _ _ _ _ _ _ _ _
   | exact ih4 _ _ _ _ _ _ _ _ _ _ _ _ _ _
   | exact ih5 _ _ _ _ _ _ _ _ _ _ _ _ _ _
   | exact impl_FailedRow.mono _ _ _ _ _ _ _ _
   | exact impl_MulMatrix.mono _ _ _ _
   | exact impl_Satisfied.mono _ _ _ _ _ _ _ _
   | exact impl_SystemOK.mono _ _ _ _ _ _ _
   | exact impl_VectorOf.mono _ _ _ _ _ _ _ _ _
   | exact laws_sameInts.mono _ _ _
   | exact spec_NumbersOf.mono _ _ _
   | exact spec_SystemDrawn.mono _ _
   | exact spec_VectorOf.mono _ _ _ _ _ _ _ _ _
   | exact LeO.none _
   | refine LeO.ite ?_ ?_
   | refine LeO.bind ?_ (fun _ => ?_)
set_option maxHeartbeats 8000000 in
set_option maxRecDepth 100000 in
theorem laws_FnSystem.calls (k : Nat) (A0 : Option Addr) (c0 : Nat) (l0 : List Int) (A1 : Option Addr) (c1 : Nat) (l1 : List Int) (r : Bool) (w : World) (hr0 : Kd.C (Kd.int .u8) w A0 l0.length l0) (hc0 : l0.length ≤ c0) (hr1 : Kd.C (Kd.int .u8) w A1 l1.length l1) (hc1 : l1.length ≤ c1) (hr_ : r = true) (h : laws_FnSystem.f k l0 l1 = some r) :
  Calls Try.prog 7 #[.slice A0 l0.length c0, .slice A1 l1.length c1] w fun e w' => e = .returned (.bool r) ∧ Below w.heap.size w w' := by
 have hu29 := Try.underlying29
 have HR0 := am_ hr0
 have HC0 := am_ hc0
 clear hr0 hc0
 have HR1 := am_ hr1
 have HC1 := am_ hc1
 clear hr1 hc1
 have HB := am_ (Below.refl w.heap.size w)
 have H : (if (l0.length : Int) > 1048576 then (laws_FnSystem.j0 k l0 l1 true) else (laws_FnSystem.j0 k l0 l1 (decide ((l1.length : Int) > 1048576)))) = some r := h
 clear h
 have HC3 := am_ H
 clear H
 go_enter Try.func7, Try.ntmps7
 go_upto_region 1 with (fail)
 repeat (go_quiet (fail); go_upto_region 1 with (fail))
 go_cut [39] (fun v39 wc => ∃ (kq : Nat) (x39_2 : Bool), v39 = .bool x39_2 ∧ Aside0 (laws_FnSystem.j0 kq l0 l1 x39_2 = some r) ∧ Aside0 (kq ≤ k) ∧ Aside0 (Below w.heap.size w wc))
 case first =>
  have H := HC3.out
  clear HC3
  by_cases c4 : (l0.length : Int) > 1048576
  ·
   rw [if_pos c4] at H
   have c4b0 : decide (1048576 < (l0.length : Int)) = true := decide_eq_true c4
   have c4b1 : decide (1048576 < l0.length) = true := decide_eq_true (by omega)
   clear c4
   (first | rw [c4b0] | (simp only [i64_w, i32_w]; rw [c4b0]) | skip)
   have H' := am_ H
   clear H
   go_wp2
   repeat (go_quiet (fail); try go_wp2)
   go_meet
   case rel => exact ⟨_, (true), qz0_, H', ⟨qz10_⟩, ⟨qz2_⟩⟩
  ·
   rw [if_neg c4] at H
   have c4b0 : decide (1048576 < (l0.length : Int)) = false := decide_eq_false c4
   have c4b1 : decide (1048576 < l0.length) = false := decide_eq_false (by omega)
   clear c4
   (first | rw [c4b0] | (simp only [i64_w, i32_w]; rw [c4b0]) | skip)
   have H' := am_ H
   clear H
   go_wp2
   repeat (go_quiet (fail); try go_wp2)
   go_meet
   case rel => exact ⟨_, (decide ((l1.length : Int) > 1048576)), qz0_, H', ⟨qz10_⟩, ⟨qz2_⟩⟩
 case rest =>
  as_aux_lemma =>
  clear HC3
  (try clear c1); (try clear p2); (try clear c4); (try clear c4b0); (try clear c4b1)
  obtain ⟨kq, x39_2, rfl, HA, HJ2, HB⟩ := hcut
  cases kq with
  | zero => exact absurd HA.out (by simp [laws_FnSystem.j0])
  | succ kj2 =>
   have H := HA.out
   clear HA
   simp only [laws_FnSystem.j0] at H
   by_cases c5 : x39_2 = true
   ·
    subst c5
    have H1 : (some true) = some r := by rw [if_pos rfl] at H; exact H
    clear H
    have H := H1
    clear H1
    obtain rfl := Option.some.inj H
    go_wp2
    repeat (go_quiet (fail); try go_wp2)
    go_ret
    exact ⟨qz7_, qz2_⟩
   ·
    replace c5 := Bool.eq_false_iff.mpr c5
    subst c5
    have H1 : ((spec_SystemDrawn.f kj2 l0).bind fun bt101 => ((spec_NumbersOf.f kj2 l1 bt101.2.2.1).bind fun t114 => (if 0 ≤ (IntKind.u64.wrap (wrap64 (bt101.2.1 - 1))) then ((laws_at.f l1 0 (shl .i64 1 (IntKind.u64.wrap (wrap64 (bt101.2.1 - 1))))).bind fun t117 => ((spec_NumbersOf.f kj2 l1 (wrap64 (1 + t117))).bind fun t118 => ((impl_VectorOf.f kj2 bt101.1 bt101.2.1 bt101.2.2.1 bt101.2.2.2.1 bt101.2.2.2.2.1 bt101.2.2.2.2.2 t114 t118).bind fun bt121 => ((spec_VectorOf.f kj2 bt101.1 bt101.2.1 bt101.2.2.1 bt101.2.2.2.1 bt101.2.2.2.2.1 bt101.2.2.2.2.2 t114 t118).bind fun bt125 => (if bt121.2 = 0 then ((laws_sameInts.f kj2 bt121.1 bt125.1).bind fun t129 => (if t129 = true then (if 0 ≤ (IntKind.u64.wrap (bt101.2.1)) then (if (bt121.1.length : Int) = (shl .i64 1 (IntKind.u64.wrap (bt101.2.1))) then (if 0 < (bt121.1.length : Int) then (laws_FnSystem.j1 kj2 bt121.1 ((rd bt121.1 0) != 1) bt101.1 bt101.2.1 bt101.2.2.1 bt101.2.2.2.1 bt101.2.2.2.2.1 bt101.2.2.2.2.2) else (none)) else (laws_FnSystem.j1 kj2 bt121.1 true bt101.1 bt101.2.1 bt101.2.2.1 bt101.2.2.2.1 bt101.2.2.2.2.1 bt101.2.2.2.2.2)) else (none)) else (laws_FnSystem.j1 kj2 bt121.1 true bt101.1 bt101.2.1 bt101.2.2.1 bt101.2.2.2.1 bt101.2.2.2.2.1 bt101.2.2.2.2.2))) else (laws_FnSystem.j1 kj2 bt121.1 true bt101.1 bt101.2.1 bt101.2.2.1 bt101.2.2.2.1 bt101.2.2.2.2.1 bt101.2.2.2.2.2)))))) else (none)))) = some r := by rw [if_neg (show ¬ (false = true) by decide)] at H; exact H
    clear H
    have H := H1
    clear H1
    replace H := Option.bind_eq_some_iff.mp H
    obtain ⟨⟨t101, t102, t103, t104, t107, t110⟩, A60, H⟩ := H
    replace H : ((spec_NumbersOf.f kj2 l1 t103).bind fun t114 => (if 0 ≤ (IntKind.u64.wrap (wrap64 (t102 - 1))) then ((laws_at.f l1 0 (shl .i64 1 (IntKind.u64.wrap (wrap64 (t102 - 1))))).bind fun t117 => ((spec_NumbersOf.f kj2 l1 (wrap64 (1 + t117))).bind fun t118 => ((impl_VectorOf.f kj2 t101 t102 t103 t104 t107 t110 t114 t118).bind fun bt121 => ((spec_VectorOf.f kj2 t101 t102 t103 t104 t107 t110 t114 t118).bind fun bt125 => (if bt121.2 = 0 then ((laws_sameInts.f kj2 bt121.1 bt125.1).bind fun t129 => (if t129 = true then (if 0 ≤ (IntKind.u64.wrap (t102)) then (if (bt121.1.length : Int) = (shl .i64 1 (IntKind.u64.wrap (t102))) then (if 0 < (bt121.1.length : Int) then (laws_FnSystem.j1 kj2 bt121.1 ((rd bt121.1 0) != 1) t101 t102 t103 t104 t107 t110) else (none)) else (laws_FnSystem.j1 kj2 bt121.1 true t101 t102 t103 t104 t107 t110)) else (none)) else (laws_FnSystem.j1 kj2 bt121.1 true t101 t102 t103 t104 t107 t110))) else (laws_FnSystem.j1 kj2 bt121.1 true t101 t102 t103 t104 t107 t110)))))) else (none))) = some r := H
    have A6 := am_ A60
    clear A60
    replace H := Option.bind_eq_some_iff.mp H
    obtain ⟨t114, A70, H⟩ := H
    replace H : (if 0 ≤ (IntKind.u64.wrap (wrap64 (t102 - 1))) then ((laws_at.f l1 0 (shl .i64 1 (IntKind.u64.wrap (wrap64 (t102 - 1))))).bind fun t117 => ((spec_NumbersOf.f kj2 l1 (wrap64 (1 + t117))).bind fun t118 => ((impl_VectorOf.f kj2 t101 t102 t103 t104 t107 t110 t114 t118).bind fun bt121 => ((spec_VectorOf.f kj2 t101 t102 t103 t104 t107 t110 t114 t118).bind fun bt125 => (if bt121.2 = 0 then ((laws_sameInts.f kj2 bt121.1 bt125.1).bind fun t129 => (if t129 = true then (if 0 ≤ (IntKind.u64.wrap (t102)) then (if (bt121.1.length : Int) = (shl .i64 1 (IntKind.u64.wrap (t102))) then (if 0 < (bt121.1.length : Int) then (laws_FnSystem.j1 kj2 bt121.1 ((rd bt121.1 0) != 1) t101 t102 t103 t104 t107 t110) else (none)) else (laws_FnSystem.j1 kj2 bt121.1 true t101 t102 t103 t104 t107 t110)) else (none)) else (laws_FnSystem.j1 kj2 bt121.1 true t101 t102 t103 t104 t107 t110))) else (laws_FnSystem.j1 kj2 bt121.1 true t101 t102 t103 t104 t107 t110)))))) else (none)) = some r := H
    have A7 := am_ A70
    clear A70
    obtain ⟨ji8, hji8⟩ : ∃ j_ : Int, (IntKind.u64.wrap (wrap64 (t102 - 1))) = j_ := ⟨_, rfl⟩
    replace H : (if 0 ≤ (ji8) then ((laws_at.f l1 0 (shl .i64 1 (ji8))).bind fun t117 => ((spec_NumbersOf.f kj2 l1 (wrap64 (1 + t117))).bind fun t118 => ((impl_VectorOf.f kj2 t101 t102 t103 t104 t107 t110 t114 t118).bind fun bt121 => ((spec_VectorOf.f kj2 t101 t102 t103 t104 t107 t110 t114 t118).bind fun bt125 => (if bt121.2 = 0 then ((laws_sameInts.f kj2 bt121.1 bt125.1).bind fun t129 => (if t129 = true then (if 0 ≤ (IntKind.u64.wrap (t102)) then (if (bt121.1.length : Int) = (shl .i64 1 (IntKind.u64.wrap (t102))) then (if 0 < (bt121.1.length : Int) then (laws_FnSystem.j1 kj2 bt121.1 ((rd bt121.1 0) != 1) t101 t102 t103 t104 t107 t110) else (none)) else (laws_FnSystem.j1 kj2 bt121.1 true t101 t102 t103 t104 t107 t110)) else (none)) else (laws_FnSystem.j1 kj2 bt121.1 true t101 t102 t103 t104 t107 t110))) else (laws_FnSystem.j1 kj2 bt121.1 true t101 t102 t103 t104 t107 t110)))))) else (none)) = some r := by first | (rw [hji8] at H; exact H) | (simp only [hji8] at H ⊢; exact H)
    (try rw [hji8] at A6)
    (try rw [hji8] at A7)
    by_cases c9 : 0 ≤ (ji8)
    ·
     rw [if_pos c9] at H
     have c9b0 := eq_true c9
     have c9b1 : decide (0 ≤ (ji8)) = true := decide_eq_true c9
     clear c9
     obtain ⟨ji10, hji10⟩ : ∃ j_ : Int, (shl .i64 1 (ji8)) = j_ := ⟨_, rfl⟩
     replace H : ((laws_at.f l1 0 (ji10)).bind fun t117 => ((spec_NumbersOf.f kj2 l1 (wrap64 (1 + t117))).bind fun t118 => ((impl_VectorOf.f kj2 t101 t102 t103 t104 t107 t110 t114 t118).bind fun bt121 => ((spec_VectorOf.f kj2 t101 t102 t103 t104 t107 t110 t114 t118).bind fun bt125 => (if bt121.2 = 0 then ((laws_sameInts.f kj2 bt121.1 bt125.1).bind fun t129 => (if t129 = true then (if 0 ≤ (IntKind.u64.wrap (t102)) then (if (bt121.1.length : Int) = (shl .i64 1 (IntKind.u64.wrap (t102))) then (if 0 < (bt121.1.length : Int) then (laws_FnSystem.j1 kj2 bt121.1 ((rd bt121.1 0) != 1) t101 t102 t103 t104 t107 t110) else (none)) else (laws_FnSystem.j1 kj2 bt121.1 true t101 t102 t103 t104 t107 t110)) else (none)) else (laws_FnSystem.j1 kj2 bt121.1 true t101 t102 t103 t104 t107 t110))) else (laws_FnSystem.j1 kj2 bt121.1 true t101 t102 t103 t104 t107 t110)))))) = some r := by first | (rw [hji10] at H; exact H) | (simp only [hji10] at H ⊢; exact H)
     (try rw [hji10] at A6)
     (try rw [hji10] at A7)
     have hji10_ : (IntKind.i64.wrap (1 * 2 ^ min (ji8).toNat 64)) = ji10 := hji10
     have hji10z : (ji8) ≤ 64 → (IntKind.i64.wrap (1 * 2 ^ (ji8).toNat)) = ji10 := shl_small hji10
     have hji10u : (IntKind.i64.wrap (2 ^ min (ji8).toNat 64)) = ji10 := by have h_ := hji10_; rw [Int.one_mul] at h_; exact h_
     have hji10v : (ji8) ≤ 64 → (IntKind.i64.wrap (2 ^ (ji8).toNat)) = ji10 := fun hle_ => by have h_ := hji10z hle_; rw [Int.one_mul] at h_; exact h_
     have hji10y : (wrap64 (1 * 2 ^ min (ji8).toNat 64)) = ji10 := (i64_w _).symm.trans hji10_
     have hji10x : (ji8) ≤ 64 → (wrap64 (1 * 2 ^ (ji8).toNat)) = ji10 := fun h_ => (i64_w _).symm.trans (hji10z h_)
     replace H := Option.bind_eq_some_iff.mp H
     obtain ⟨t117, A110, H⟩ := H
     replace H : ((spec_NumbersOf.f kj2 l1 (wrap64 (1 + t117))).bind fun t118 => ((impl_VectorOf.f kj2 t101 t102 t103 t104 t107 t110 t114 t118).bind fun bt121 => ((spec_VectorOf.f kj2 t101 t102 t103 t104 t107 t110 t114 t118).bind fun bt125 => (if bt121.2 = 0 then ((laws_sameInts.f kj2 bt121.1 bt125.1).bind fun t129 => (if t129 = true then (if 0 ≤ (IntKind.u64.wrap (t102)) then (if (bt121.1.length : Int) = (shl .i64 1 (IntKind.u64.wrap (t102))) then (if 0 < (bt121.1.length : Int) then (laws_FnSystem.j1 kj2 bt121.1 ((rd bt121.1 0) != 1) t101 t102 t103 t104 t107 t110) else (none)) else (laws_FnSystem.j1 kj2 bt121.1 true t101 t102 t103 t104 t107 t110)) else (none)) else (laws_FnSystem.j1 kj2 bt121.1 true t101 t102 t103 t104 t107 t110))) else (laws_FnSystem.j1 kj2 bt121.1 true t101 t102 t103 t104 t107 t110))))) = some r := H
     have A11 := am_ A110
     clear A110
     replace H := Option.bind_eq_some_iff.mp H
     obtain ⟨t118, A120, H⟩ := H
     replace H : ((impl_VectorOf.f kj2 t101 t102 t103 t104 t107 t110 t114 t118).bind fun bt121 => ((spec_VectorOf.f kj2 t101 t102 t103 t104 t107 t110 t114 t118).bind fun bt125 => (if bt121.2 = 0 then ((laws_sameInts.f kj2 bt121.1 bt125.1).bind fun t129 => (if t129 = true then (if 0 ≤ (IntKind.u64.wrap (t102)) then (if (bt121.1.length : Int) = (shl .i64 1 (IntKind.u64.wrap (t102))) then (if 0 < (bt121.1.length : Int) then (laws_FnSystem.j1 kj2 bt121.1 ((rd bt121.1 0) != 1) t101 t102 t103 t104 t107 t110) else (none)) else (laws_FnSystem.j1 kj2 bt121.1 true t101 t102 t103 t104 t107 t110)) else (none)) else (laws_FnSystem.j1 kj2 bt121.1 true t101 t102 t103 t104 t107 t110))) else (laws_FnSystem.j1 kj2 bt121.1 true t101 t102 t103 t104 t107 t110)))) = some r := H
     have A12 := am_ A120
     clear A120
     replace H := Option.bind_eq_some_iff.mp H
     obtain ⟨⟨t121, t124⟩, A130, H⟩ := H
     replace H : ((spec_VectorOf.f kj2 t101 t102 t103 t104 t107 t110 t114 t118).bind fun bt125 => (if t124 = 0 then ((laws_sameInts.f kj2 t121 bt125.1).bind fun t129 => (if t129 = true then (if 0 ≤ (IntKind.u64.wrap (t102)) then (if (t121.length : Int) = (shl .i64 1 (IntKind.u64.wrap (t102))) then (if 0 < (t121.length : Int) then (laws_FnSystem.j1 kj2 t121 ((rd t121 0) != 1) t101 t102 t103 t104 t107 t110) else (none)) else (laws_FnSystem.j1 kj2 t121 true t101 t102 t103 t104 t107 t110)) else (none)) else (laws_FnSystem.j1 kj2 t121 true t101 t102 t103 t104 t107 t110))) else (laws_FnSystem.j1 kj2 t121 true t101 t102 t103 t104 t107 t110))) = some r := H
     have A13 := am_ A130
     clear A130
     replace H := Option.bind_eq_some_iff.mp H
     obtain ⟨⟨t125, t128⟩, A140, H⟩ := H
     replace H : (if t124 = 0 then ((laws_sameInts.f kj2 t121 t125).bind fun t129 => (if t129 = true then (if 0 ≤ (IntKind.u64.wrap (t102)) then (if (t121.length : Int) = (shl .i64 1 (IntKind.u64.wrap (t102))) then (if 0 < (t121.length : Int) then (laws_FnSystem.j1 kj2 t121 ((rd t121 0) != 1) t101 t102 t103 t104 t107 t110) else (none)) else (laws_FnSystem.j1 kj2 t121 true t101 t102 t103 t104 t107 t110)) else (none)) else (laws_FnSystem.j1 kj2 t121 true t101 t102 t103 t104 t107 t110))) else (laws_FnSystem.j1 kj2 t121 true t101 t102 t103 t104 t107 t110)) = some r := H
     have A14 := am_ A140
     clear A140
     have HC15 := am_ H
     clear H
     go_upto_region 8 with (first | (go_at_call 26; (with_reducible refine (spec_SystemDrawn.calls kj2 _ _ l0 t101 t102 t103 t104 t107 t110 _ ?side1 ?side2 A6.out).mono ?_); (case side1 => exact qc_ (Kd.C_below HR0.out HB.out)); (case side2 => exact HC0.out); rintro e w16 ⟨v105, v108, v111, rfl, ho0, ho1, ho2, hb⟩; have n0_ := am_ (Kd.R_lower ho0 (below_size qz2_)); have n1_ := am_ (Kd.R_lower ho1 (below_size qz2_)); have n2_ := am_ (Kd.R_lower ho2 (below_size qz2_)); have n3_ := am_ (below_step qz2_ hb); clear HB; have HO106 := n0_; have HO109 := n1_; have HO112 := n2_; have HB := n3_; clear n0_ n1_ n2_ n3_; (try clear hb); (try clear hb2); (try clear hk); (try clear hi); (try clear ho0); (try clear ho1); (try clear ho2)) | ((with_reducible refine gate_dst (N := 5) rfl ?_); (try (refine gate_guard (by rfl) ?_; dsimp only)); refine box_event ?hg (N := 5) ?hd (cs := #[.int .i64 0, .int .i64 0, .int .i64 0, .slice none 0 0, .slice none 0 0, .slice none 0 0]) (t := 29) ?hr ?_; (case hd => rfl); (case hg => rfl); (case hr => first | (go_simp; done) | (go_simp; rfl)); intro gb113 hg w17 hbox hb; have n0_ := am_ (Kd.R_below qz28_ hb); have n1_ := am_ (Kd.R_below qz27_ hb); have n2_ := am_ (Kd.R_below qz23_ hb); have n3_ := am_ (below_step qz2_ hb); have n4_ := am_ (hbox); have n5_ := am_ ((by rw [hg]; exact (below_size qz2_) : w.heap.size ≤ gb113)); have n6_ := am_ ((by rw [hg]; exact (below_size qz2_) : w.heap.size ≤ gb113)); clear HO106; clear HO109; clear HO112; clear HB; have HO106 := n0_; have HO109 := n1_; have HO112 := n2_; have HB := n3_; have BK113 := n4_; have GW113 := n5_; have GE113 := n6_; clear n0_ n1_ n2_ n3_ n4_ n5_ n6_; clear hb hbox hg; have hcz18_0 : w17.cell? ⟨gb113, 0, none⟩ = some (.int .i64 0) := (blk_cell BK113.out 0).trans rfl; have hcz18_1 : w17.cell? ⟨gb113, 1, none⟩ = some (.int .i64 0) := (blk_cell BK113.out 1).trans rfl; have hcz18_2 : w17.cell? ⟨gb113, 2, none⟩ = some (.int .i64 0) := (blk_cell BK113.out 2).trans rfl; have hcz18_3 : w17.cell? ⟨gb113, 3, none⟩ = some (.slice none 0 0) := (blk_cell BK113.out 3).trans rfl; have hcz18_4 : w17.cell? ⟨gb113, 4, none⟩ = some (.slice none 0 0) := (blk_cell BK113.out 4).trans rfl; have hcz18_5 : w17.cell? ⟨gb113, 5, none⟩ = some (.slice none 0 0) := (blk_cell BK113.out 5).trans rfl; have hfz18_0 := blk_frozen BK113.out 0; have hfz18_1 := blk_frozen BK113.out 1; have hfz18_2 := blk_frozen BK113.out 2; have hfz18_3 := blk_frozen BK113.out 3; have hfz18_4 := blk_frozen BK113.out 4; have hfz18_5 := blk_frozen BK113.out 5; obtain ⟨Ao19, co19, eo19⟩ := Kd.R_slice HO106.out; subst eo19; obtain ⟨Ao20, co20, eo20⟩ := Kd.R_slice HO109.out; subst eo20; obtain ⟨Ao21, co21, eo21⟩ := Kd.R_slice HO112.out; subst eo21) | (go_at_call 27; (with_reducible refine (spec_NumbersOf.calls kj2 _ _ l1 t103 t114 _ ?side1 ?side2 A7.out).mono ?_); (case side1 => exact Kd.C_below HR1.out qz29_); (case side2 => exact HC1.out); rintro e w22 ⟨v115, rfl, ho0, hb⟩; have n0_ := am_ (Kd.R_below (by (with_reducible repeat (first | apply Kd.R_alloc | apply Kd.R_drewN | apply Kd.R_drew)); exact (Kd.R_mono (Kd.R_far (p := ⟨gb113, 5, none⟩) (Kd.R_far (p := ⟨gb113, 4, none⟩) (Kd.R_far (p := ⟨gb113, 3, none⟩) (Kd.R_far (p := ⟨gb113, 2, none⟩) (Kd.R_far (p := ⟨gb113, 1, none⟩) (Kd.R_far (p := ⟨gb113, 0, none⟩) (Kd.R_types HO106.out BK113.out (by decide)) (fun _ hk => hk.2) (.int .i64 t101)) (fun _ hk => hk.2) (.int .i64 t102)) (fun _ hk => hk.2) (.int .i64 t103)) (fun _ hk => hk.2) (.slice Ao19 t104.length co19)) (fun _ hk => hk.2) (.slice Ao20 t107.length co20)) (fun _ hk => hk.2) (.slice Ao21 t110.length co21)) (fun _ h_ => h_.1))) hb); have n1_ := am_ (Kd.R_below (by (with_reducible repeat (first | apply Kd.R_alloc | apply Kd.R_drewN | apply Kd.R_drew)); exact (Kd.R_mono (Kd.R_far (p := ⟨gb113, 5, none⟩) (Kd.R_far (p := ⟨gb113, 4, none⟩) (Kd.R_far (p := ⟨gb113, 3, none⟩) (Kd.R_far (p := ⟨gb113, 2, none⟩) (Kd.R_far (p := ⟨gb113, 1, none⟩) (Kd.R_far (p := ⟨gb113, 0, none⟩) (Kd.R_types HO109.out BK113.out (by decide)) (fun _ hk => hk.2) (.int .i64 t101)) (fun _ hk => hk.2) (.int .i64 t102)) (fun _ hk => hk.2) (.int .i64 t103)) (fun _ hk => hk.2) (.slice Ao19 t104.length co19)) (fun _ hk => hk.2) (.slice Ao20 t107.length co20)) (fun _ hk => hk.2) (.slice Ao21 t110.length co21)) (fun _ h_ => h_.1))) hb); have n2_ := am_ (Kd.R_below (by (with_reducible repeat (first | apply Kd.R_alloc | apply Kd.R_drewN | apply Kd.R_drew)); exact (Kd.R_mono (Kd.R_far (p := ⟨gb113, 5, none⟩) (Kd.R_far (p := ⟨gb113, 4, none⟩) (Kd.R_far (p := ⟨gb113, 3, none⟩) (Kd.R_far (p := ⟨gb113, 2, none⟩) (Kd.R_far (p := ⟨gb113, 1, none⟩) (Kd.R_far (p := ⟨gb113, 0, none⟩) (Kd.R_types HO112.out BK113.out (by decide)) (fun _ hk => hk.2) (.int .i64 t101)) (fun _ hk => hk.2) (.int .i64 t102)) (fun _ hk => hk.2) (.int .i64 t103)) (fun _ hk => hk.2) (.slice Ao19 t104.length co19)) (fun _ hk => hk.2) (.slice Ao20 t107.length co20)) (fun _ hk => hk.2) (.slice Ao21 t110.length co21)) (fun _ h_ => h_.1))) hb); have n3_ := am_ (Kd.R_lower ho0 (below_size qz29_)); have n4_ := am_ (blk_below (g := gb113) (o := .cells #[.int .i64 t101, .int .i64 t102, .int .i64 t103, .slice Ao19 t104.length co19, .slice Ao20 t107.length co20, .slice Ao21 t110.length co21] 29 (0, 0)) qz30_ hb); have n5_ := am_ (below_step qz29_ hb); clear HO106; clear HO109; clear HO112; clear BK113; clear HB; have HO106 := n0_; have HO109 := n1_; have HO112 := n2_; have HO116 := n3_; have BK113 := n4_; have HB := n5_; clear n0_ n1_ n2_ n3_ n4_ n5_; (try clear hb); (try clear hb2); (try clear hk); (try clear hi); (try clear ho0); have hcz23_0 : w22.cell? ⟨gb113, 0, none⟩ = some (.int .i64 t101) := (blk_cell BK113.out 0).trans rfl; have hcz23_1 : w22.cell? ⟨gb113, 1, none⟩ = some (.int .i64 t102) := (blk_cell BK113.out 1).trans rfl; have hcz23_2 : w22.cell? ⟨gb113, 2, none⟩ = some (.int .i64 t103) := (blk_cell BK113.out 2).trans rfl; have hcz23_3 : w22.cell? ⟨gb113, 3, none⟩ = some (.slice Ao19 t104.length co19) := (blk_cell BK113.out 3).trans rfl; have hcz23_4 : w22.cell? ⟨gb113, 4, none⟩ = some (.slice Ao20 t107.length co20) := (blk_cell BK113.out 4).trans rfl; have hcz23_5 : w22.cell? ⟨gb113, 5, none⟩ = some (.slice Ao21 t110.length co21) := (blk_cell BK113.out 5).trans rfl; have hfz23_0 := blk_frozen BK113.out 0; have hfz23_1 := blk_frozen BK113.out 1; have hfz23_2 := blk_frozen BK113.out 2; have hfz23_3 := blk_frozen BK113.out 3; have hfz23_4 := blk_frozen BK113.out 4; have hfz23_5 := blk_frozen BK113.out 5) | (go_at_call 28; (with_reducible refine (laws_at.calls _ _ l1 0 ji10 t117 _ ?side1 ?side2 A11.out).mono ?_); (case side1 => exact qc_ (Kd.C_below HR1.out HB.out)); (case side2 => exact HC1.out); rintro e w' ⟨rfl, ⟨nd, rfl⟩⟩; (try first | exact ⟨rfl, _, qd1_⟩ | exact ⟨rfl, _, qd2_⟩)) | (go_at_call 27; (with_reducible refine (spec_NumbersOf.calls kj2 _ _ l1 (wrap64 (1 + t117)) t118 _ ?side1 ?side2 A12.out).mono ?_); (case side1 => repeat (first | exact (Kd.C_below HR1.out qz29_) | (with_reducible refine Kd.C_alloc ?_ _) | (with_reducible refine Kd.C_drewN ?_ _) | (with_reducible refine Kd.C_drew ?_))); (case side2 => exact HC1.out); rintro e w24 ⟨v119, rfl, ho0, hb⟩; have n0_ := am_ (Kd.R_below qz28_ hb); have n1_ := am_ (Kd.R_below qz27_ hb); have n2_ := am_ (Kd.R_below qz23_ hb); have n3_ := am_ (Kd.R_elder' qz17_ (Kd.R_base ho0) hb); have n4_ := am_ (Kd.R_lower (Kd.R_new' ho0 (Kd.R_lt qz17_)) (below_size qz29_)); have n5_ := am_ (blk_below (g := gb113) (o := .cells #[.int .i64 t101, .int .i64 t102, .int .i64 t103, .slice Ao19 t104.length co19, .slice Ao20 t107.length co20, .slice Ao21 t110.length co21] 29 (0, 0)) qz31_ hb); have n6_ := am_ (below_step qz29_ hb); clear HO106; clear HO109; clear HO112; clear HO116; clear BK113; clear HB; have HO106 := n0_; have HO109 := n1_; have HO112 := n2_; have HO116 := n3_; have HO120 := n4_; have BK113 := n5_; have HB := n6_; clear n0_ n1_ n2_ n3_ n4_ n5_ n6_; (try clear hb); (try clear hb2); (try clear hk); (try clear hi); (try clear ho0); have hcz25_0 : w24.cell? ⟨gb113, 0, none⟩ = some (.int .i64 t101) := (blk_cell BK113.out 0).trans rfl; have hcz25_1 : w24.cell? ⟨gb113, 1, none⟩ = some (.int .i64 t102) := (blk_cell BK113.out 1).trans rfl; have hcz25_2 : w24.cell? ⟨gb113, 2, none⟩ = some (.int .i64 t103) := (blk_cell BK113.out 2).trans rfl; have hcz25_3 : w24.cell? ⟨gb113, 3, none⟩ = some (.slice Ao19 t104.length co19) := (blk_cell BK113.out 3).trans rfl; have hcz25_4 : w24.cell? ⟨gb113, 4, none⟩ = some (.slice Ao20 t107.length co20) := (blk_cell BK113.out 4).trans rfl; have hcz25_5 : w24.cell? ⟨gb113, 5, none⟩ = some (.slice Ao21 t110.length co21) := (blk_cell BK113.out 5).trans rfl; have hfz25_0 := blk_frozen BK113.out 0; have hfz25_1 := blk_frozen BK113.out 1; have hfz25_2 := blk_frozen BK113.out 2; have hfz25_3 := blk_frozen BK113.out 3; have hfz25_4 := blk_frozen BK113.out 4; have hfz25_5 := blk_frozen BK113.out 5; obtain ⟨Ao26, co26, eo26⟩ := Kd.R_slice HO116.out; subst eo26; obtain ⟨Ao27, co27, eo27⟩ := Kd.R_slice HO120.out; subst eo27) | (go_at_call 17; (with_reducible refine (impl_VectorOf.calls kj2 t101 t102 t103 _ _ t104 _ _ t107 _ _ t110 _ _ t114 _ _ t118 t121 t124 _ ?side1 ?side2 ?side3 ?side4 ?side5 ?side6 ?side7 ?side8 ?side9 ?side10 A13.out).mono ?_); (case side1 => exact qc_ (Kd.R_reads' HO106.out).2.2); (case side2 => exact (Kd.R_reads' HO106.out).2.1); (case side3 => exact qc_ (Kd.R_reads' HO109.out).2.2); (case side4 => exact (Kd.R_reads' HO109.out).2.1); (case side5 => exact qc_ (Kd.R_reads' HO112.out).2.2); (case side6 => exact (Kd.R_reads' HO112.out).2.1); (case side7 => exact qc_ (Kd.R_reads' HO116.out).2.2); (case side8 => exact (Kd.R_reads' HO116.out).2.1); (case side9 => exact qc_ (Kd.R_reads' HO120.out).2.2); (case side10 => exact (Kd.R_reads' HO120.out).2.1); rintro e w28 ⟨v122, rfl, ho0, hb⟩; have n0_ := am_ (Kd.R_below qz28_ hb); have n1_ := am_ (Kd.R_below qz27_ hb); have n2_ := am_ (Kd.R_below qz23_ hb); have n3_ := am_ (Kd.R_elder' qz17_ (Kd.R_base ho0) hb); have n4_ := am_ (Kd.R_elder' qz32_ (Kd.R_base ho0) hb); have n5_ := am_ (Kd.R_lower (Kd.R_new' (Kd.R_new' ho0 (Kd.R_lt qz17_)) (Kd.R_lt qz32_)) (below_size qz29_)); have n6_ := am_ (blk_below (g := gb113) (o := .cells #[.int .i64 t101, .int .i64 t102, .int .i64 t103, .slice Ao19 t104.length co19, .slice Ao20 t107.length co20, .slice Ao21 t110.length co21] 29 (0, 0)) qz31_ hb); have n7_ := am_ (below_step qz29_ hb); clear HO106; clear HO109; clear HO112; clear HO116; clear HO120; clear BK113; clear HB; have HO106 := n0_; have HO109 := n1_; have HO112 := n2_; have HO116 := n3_; have HO120 := n4_; have HO123 := n5_; have BK113 := n6_; have HB := n7_; clear n0_ n1_ n2_ n3_ n4_ n5_ n6_ n7_; (try clear hb); (try clear hb2); (try clear hk); (try clear hi); (try clear ho0); have hcz29_0 : w28.cell? ⟨gb113, 0, none⟩ = some (.int .i64 t101) := (blk_cell BK113.out 0).trans rfl; have hcz29_1 : w28.cell? ⟨gb113, 1, none⟩ = some (.int .i64 t102) := (blk_cell BK113.out 1).trans rfl; have hcz29_2 : w28.cell? ⟨gb113, 2, none⟩ = some (.int .i64 t103) := (blk_cell BK113.out 2).trans rfl; have hcz29_3 : w28.cell? ⟨gb113, 3, none⟩ = some (.slice Ao19 t104.length co19) := (blk_cell BK113.out 3).trans rfl; have hcz29_4 : w28.cell? ⟨gb113, 4, none⟩ = some (.slice Ao20 t107.length co20) := (blk_cell BK113.out 4).trans rfl; have hcz29_5 : w28.cell? ⟨gb113, 5, none⟩ = some (.slice Ao21 t110.length co21) := (blk_cell BK113.out 5).trans rfl; have hfz29_0 := blk_frozen BK113.out 0; have hfz29_1 := blk_frozen BK113.out 1; have hfz29_2 := blk_frozen BK113.out 2; have hfz29_3 := blk_frozen BK113.out 3; have hfz29_4 := blk_frozen BK113.out 4; have hfz29_5 := blk_frozen BK113.out 5) | (go_at_call 15; (with_reducible refine (spec_VectorOf.calls kj2 t101 t102 t103 _ _ t104 _ _ t107 _ _ t110 _ _ t114 _ _ t118 t125 t128 _ ?side1 ?side2 ?side3 ?side4 ?side5 ?side6 ?side7 ?side8 ?side9 ?side10 A14.out).mono ?_); (case side1 => exact qc_ (Kd.R_reads' HO106.out).2.2); (case side2 => exact (Kd.R_reads' HO106.out).2.1); (case side3 => exact qc_ (Kd.R_reads' HO109.out).2.2); (case side4 => exact (Kd.R_reads' HO109.out).2.1); (case side5 => exact qc_ (Kd.R_reads' HO112.out).2.2); (case side6 => exact (Kd.R_reads' HO112.out).2.1); (case side7 => exact qc_ (Kd.R_reads' HO116.out).2.2); (case side8 => exact (Kd.R_reads' HO116.out).2.1); (case side9 => exact qc_ (Kd.R_reads' HO120.out).2.2); (case side10 => exact (Kd.R_reads' HO120.out).2.1); rintro e w30 ⟨v126, rfl, ho0, hb⟩; have n0_ := am_ (Kd.R_below qz28_ hb); have n1_ := am_ (Kd.R_below qz27_ hb); have n2_ := am_ (Kd.R_below qz23_ hb); have n3_ := am_ (Kd.R_elder' qz17_ (Kd.R_base ho0) hb); have n4_ := am_ (Kd.R_elder' qz32_ (Kd.R_base ho0) hb); have n5_ := am_ (Kd.R_elder' qz33_ (Kd.R_base ho0) hb); have n6_ := am_ (Kd.R_lower (Kd.R_new' (Kd.R_new' (Kd.R_new' ho0 (Kd.R_lt qz17_)) (Kd.R_lt qz32_)) (Kd.R_lt qz33_)) (below_size qz29_)); have n7_ := am_ (blk_below (g := gb113) (o := .cells #[.int .i64 t101, .int .i64 t102, .int .i64 t103, .slice Ao19 t104.length co19, .slice Ao20 t107.length co20, .slice Ao21 t110.length co21] 29 (0, 0)) qz31_ hb); have n8_ := am_ (below_step qz29_ hb); clear HO106; clear HO109; clear HO112; clear HO116; clear HO120; clear HO123; clear BK113; clear HB; have HO106 := n0_; have HO109 := n1_; have HO112 := n2_; have HO116 := n3_; have HO120 := n4_; have HO123 := n5_; have HO127 := n6_; have BK113 := n7_; have HB := n8_; clear n0_ n1_ n2_ n3_ n4_ n5_ n6_ n7_ n8_; (try clear hb); (try clear hb2); (try clear hk); (try clear hi); (try clear ho0)))
     repeat (go_quiet (first | (go_at_call 26; (with_reducible refine (spec_SystemDrawn.calls kj2 _ _ l0 t101 t102 t103 t104 t107 t110 _ ?side1 ?side2 A6.out).mono ?_); (case side1 => exact qc_ (Kd.C_below HR0.out HB.out)); (case side2 => exact HC0.out); rintro e w16 ⟨v105, v108, v111, rfl, ho0, ho1, ho2, hb⟩; have n0_ := am_ (Kd.R_lower ho0 (below_size qz2_)); have n1_ := am_ (Kd.R_lower ho1 (below_size qz2_)); have n2_ := am_ (Kd.R_lower ho2 (below_size qz2_)); have n3_ := am_ (below_step qz2_ hb); clear HB; have HO106 := n0_; have HO109 := n1_; have HO112 := n2_; have HB := n3_; clear n0_ n1_ n2_ n3_; (try clear hb); (try clear hb2); (try clear hk); (try clear hi); (try clear ho0); (try clear ho1); (try clear ho2)) | (go_at_call 27; (with_reducible refine (spec_NumbersOf.calls kj2 _ _ l1 t103 t114 _ ?side1 ?side2 A7.out).mono ?_); (case side1 => exact Kd.C_below HR1.out qz29_); (case side2 => exact HC1.out); rintro e w22 ⟨v115, rfl, ho0, hb⟩; have n0_ := am_ (Kd.R_below (by (with_reducible repeat (first | apply Kd.R_alloc | apply Kd.R_drewN | apply Kd.R_drew)); exact (Kd.R_mono (Kd.R_far (p := ⟨gb113, 5, none⟩) (Kd.R_far (p := ⟨gb113, 4, none⟩) (Kd.R_far (p := ⟨gb113, 3, none⟩) (Kd.R_far (p := ⟨gb113, 2, none⟩) (Kd.R_far (p := ⟨gb113, 1, none⟩) (Kd.R_far (p := ⟨gb113, 0, none⟩) (Kd.R_types HO106.out BK113.out (by decide)) (fun _ hk => hk.2) (.int .i64 t101)) (fun _ hk => hk.2) (.int .i64 t102)) (fun _ hk => hk.2) (.int .i64 t103)) (fun _ hk => hk.2) (.slice Ao19 t104.length co19)) (fun _ hk => hk.2) (.slice Ao20 t107.length co20)) (fun _ hk => hk.2) (.slice Ao21 t110.length co21)) (fun _ h_ => h_.1))) hb); have n1_ := am_ (Kd.R_below (by (with_reducible repeat (first | apply Kd.R_alloc | apply Kd.R_drewN | apply Kd.R_drew)); exact (Kd.R_mono (Kd.R_far (p := ⟨gb113, 5, none⟩) (Kd.R_far (p := ⟨gb113, 4, none⟩) (Kd.R_far (p := ⟨gb113, 3, none⟩) (Kd.R_far (p := ⟨gb113, 2, none⟩) (Kd.R_far (p := ⟨gb113, 1, none⟩) (Kd.R_far (p := ⟨gb113, 0, none⟩) (Kd.R_types HO109.out BK113.out (by decide)) (fun _ hk => hk.2) (.int .i64 t101)) (fun _ hk => hk.2) (.int .i64 t102)) (fun _ hk => hk.2) (.int .i64 t103)) (fun _ hk => hk.2) (.slice Ao19 t104.length co19)) (fun _ hk => hk.2) (.slice Ao20 t107.length co20)) (fun _ hk => hk.2) (.slice Ao21 t110.length co21)) (fun _ h_ => h_.1))) hb); have n2_ := am_ (Kd.R_below (by (with_reducible repeat (first | apply Kd.R_alloc | apply Kd.R_drewN | apply Kd.R_drew)); exact (Kd.R_mono (Kd.R_far (p := ⟨gb113, 5, none⟩) (Kd.R_far (p := ⟨gb113, 4, none⟩) (Kd.R_far (p := ⟨gb113, 3, none⟩) (Kd.R_far (p := ⟨gb113, 2, none⟩) (Kd.R_far (p := ⟨gb113, 1, none⟩) (Kd.R_far (p := ⟨gb113, 0, none⟩) (Kd.R_types HO112.out BK113.out (by decide)) (fun _ hk => hk.2) (.int .i64 t101)) (fun _ hk => hk.2) (.int .i64 t102)) (fun _ hk => hk.2) (.int .i64 t103)) (fun _ hk => hk.2) (.slice Ao19 t104.length co19)) (fun _ hk => hk.2) (.slice Ao20 t107.length co20)) (fun _ hk => hk.2) (.slice Ao21 t110.length co21)) (fun _ h_ => h_.1))) hb); have n3_ := am_ (Kd.R_lower ho0 (below_size qz29_)); have n4_ := am_ (blk_below (g := gb113) (o := .cells #[.int .i64 t101, .int .i64 t102, .int .i64 t103, .slice Ao19 t104.length co19, .slice Ao20 t107.length co20, .slice Ao21 t110.length co21] 29 (0, 0)) qz30_ hb); have n5_ := am_ (below_step qz29_ hb); clear HO106; clear HO109; clear HO112; clear BK113; clear HB; have HO106 := n0_; have HO109 := n1_; have HO112 := n2_; have HO116 := n3_; have BK113 := n4_; have HB := n5_; clear n0_ n1_ n2_ n3_ n4_ n5_; (try clear hb); (try clear hb2); (try clear hk); (try clear hi); (try clear ho0); have hcz23_0 : w22.cell? ⟨gb113, 0, none⟩ = some (.int .i64 t101) := (blk_cell BK113.out 0).trans rfl; have hcz23_1 : w22.cell? ⟨gb113, 1, none⟩ = some (.int .i64 t102) := (blk_cell BK113.out 1).trans rfl; have hcz23_2 : w22.cell? ⟨gb113, 2, none⟩ = some (.int .i64 t103) := (blk_cell BK113.out 2).trans rfl; have hcz23_3 : w22.cell? ⟨gb113, 3, none⟩ = some (.slice Ao19 t104.length co19) := (blk_cell BK113.out 3).trans rfl; have hcz23_4 : w22.cell? ⟨gb113, 4, none⟩ = some (.slice Ao20 t107.length co20) := (blk_cell BK113.out 4).trans rfl; have hcz23_5 : w22.cell? ⟨gb113, 5, none⟩ = some (.slice Ao21 t110.length co21) := (blk_cell BK113.out 5).trans rfl; have hfz23_0 := blk_frozen BK113.out 0; have hfz23_1 := blk_frozen BK113.out 1; have hfz23_2 := blk_frozen BK113.out 2; have hfz23_3 := blk_frozen BK113.out 3; have hfz23_4 := blk_frozen BK113.out 4; have hfz23_5 := blk_frozen BK113.out 5) | (go_at_call 28; (with_reducible refine (laws_at.calls _ _ l1 0 ji10 t117 _ ?side1 ?side2 A11.out).mono ?_); (case side1 => exact qc_ (Kd.C_below HR1.out HB.out)); (case side2 => exact HC1.out); rintro e w' ⟨rfl, ⟨nd, rfl⟩⟩; (try first | exact ⟨rfl, _, qd1_⟩ | exact ⟨rfl, _, qd2_⟩)) | (go_at_call 27; (with_reducible refine (spec_NumbersOf.calls kj2 _ _ l1 (wrap64 (1 + t117)) t118 _ ?side1 ?side2 A12.out).mono ?_); (case side1 => repeat (first | exact (Kd.C_below HR1.out qz29_) | (with_reducible refine Kd.C_alloc ?_ _) | (with_reducible refine Kd.C_drewN ?_ _) | (with_reducible refine Kd.C_drew ?_))); (case side2 => exact HC1.out); rintro e w24 ⟨v119, rfl, ho0, hb⟩; have n0_ := am_ (Kd.R_below qz28_ hb); have n1_ := am_ (Kd.R_below qz27_ hb); have n2_ := am_ (Kd.R_below qz23_ hb); have n3_ := am_ (Kd.R_elder' qz17_ (Kd.R_base ho0) hb); have n4_ := am_ (Kd.R_lower (Kd.R_new' ho0 (Kd.R_lt qz17_)) (below_size qz29_)); have n5_ := am_ (blk_below (g := gb113) (o := .cells #[.int .i64 t101, .int .i64 t102, .int .i64 t103, .slice Ao19 t104.length co19, .slice Ao20 t107.length co20, .slice Ao21 t110.length co21] 29 (0, 0)) qz31_ hb); have n6_ := am_ (below_step qz29_ hb); clear HO106; clear HO109; clear HO112; clear HO116; clear BK113; clear HB; have HO106 := n0_; have HO109 := n1_; have HO112 := n2_; have HO116 := n3_; have HO120 := n4_; have BK113 := n5_; have HB := n6_; clear n0_ n1_ n2_ n3_ n4_ n5_ n6_; (try clear hb); (try clear hb2); (try clear hk); (try clear hi); (try clear ho0); have hcz25_0 : w24.cell? ⟨gb113, 0, none⟩ = some (.int .i64 t101) := (blk_cell BK113.out 0).trans rfl; have hcz25_1 : w24.cell? ⟨gb113, 1, none⟩ = some (.int .i64 t102) := (blk_cell BK113.out 1).trans rfl; have hcz25_2 : w24.cell? ⟨gb113, 2, none⟩ = some (.int .i64 t103) := (blk_cell BK113.out 2).trans rfl; have hcz25_3 : w24.cell? ⟨gb113, 3, none⟩ = some (.slice Ao19 t104.length co19) := (blk_cell BK113.out 3).trans rfl; have hcz25_4 : w24.cell? ⟨gb113, 4, none⟩ = some (.slice Ao20 t107.length co20) := (blk_cell BK113.out 4).trans rfl; have hcz25_5 : w24.cell? ⟨gb113, 5, none⟩ = some (.slice Ao21 t110.length co21) := (blk_cell BK113.out 5).trans rfl; have hfz25_0 := blk_frozen BK113.out 0; have hfz25_1 := blk_frozen BK113.out 1; have hfz25_2 := blk_frozen BK113.out 2; have hfz25_3 := blk_frozen BK113.out 3; have hfz25_4 := blk_frozen BK113.out 4; have hfz25_5 := blk_frozen BK113.out 5; obtain ⟨Ao26, co26, eo26⟩ := Kd.R_slice HO116.out; subst eo26; obtain ⟨Ao27, co27, eo27⟩ := Kd.R_slice HO120.out; subst eo27) | (go_at_call 17; (with_reducible refine (impl_VectorOf.calls kj2 t101 t102 t103 _ _ t104 _ _ t107 _ _ t110 _ _ t114 _ _ t118 t121 t124 _ ?side1 ?side2 ?side3 ?side4 ?side5 ?side6 ?side7 ?side8 ?side9 ?side10 A13.out).mono ?_); (case side1 => exact qc_ (Kd.R_reads' HO106.out).2.2); (case side2 => exact (Kd.R_reads' HO106.out).2.1); (case side3 => exact qc_ (Kd.R_reads' HO109.out).2.2); (case side4 => exact (Kd.R_reads' HO109.out).2.1); (case side5 => exact qc_ (Kd.R_reads' HO112.out).2.2); (case side6 => exact (Kd.R_reads' HO112.out).2.1); (case side7 => exact qc_ (Kd.R_reads' HO116.out).2.2); (case side8 => exact (Kd.R_reads' HO116.out).2.1); (case side9 => exact qc_ (Kd.R_reads' HO120.out).2.2); (case side10 => exact (Kd.R_reads' HO120.out).2.1); rintro e w28 ⟨v122, rfl, ho0, hb⟩; have n0_ := am_ (Kd.R_below qz28_ hb); have n1_ := am_ (Kd.R_below qz27_ hb); have n2_ := am_ (Kd.R_below qz23_ hb); have n3_ := am_ (Kd.R_elder' qz17_ (Kd.R_base ho0) hb); have n4_ := am_ (Kd.R_elder' qz32_ (Kd.R_base ho0) hb); have n5_ := am_ (Kd.R_lower (Kd.R_new' (Kd.R_new' ho0 (Kd.R_lt qz17_)) (Kd.R_lt qz32_)) (below_size qz29_)); have n6_ := am_ (blk_below (g := gb113) (o := .cells #[.int .i64 t101, .int .i64 t102, .int .i64 t103, .slice Ao19 t104.length co19, .slice Ao20 t107.length co20, .slice Ao21 t110.length co21] 29 (0, 0)) qz31_ hb); have n7_ := am_ (below_step qz29_ hb); clear HO106; clear HO109; clear HO112; clear HO116; clear HO120; clear BK113; clear HB; have HO106 := n0_; have HO109 := n1_; have HO112 := n2_; have HO116 := n3_; have HO120 := n4_; have HO123 := n5_; have BK113 := n6_; have HB := n7_; clear n0_ n1_ n2_ n3_ n4_ n5_ n6_ n7_; (try clear hb); (try clear hb2); (try clear hk); (try clear hi); (try clear ho0); have hcz29_0 : w28.cell? ⟨gb113, 0, none⟩ = some (.int .i64 t101) := (blk_cell BK113.out 0).trans rfl; have hcz29_1 : w28.cell? ⟨gb113, 1, none⟩ = some (.int .i64 t102) := (blk_cell BK113.out 1).trans rfl; have hcz29_2 : w28.cell? ⟨gb113, 2, none⟩ = some (.int .i64 t103) := (blk_cell BK113.out 2).trans rfl; have hcz29_3 : w28.cell? ⟨gb113, 3, none⟩ = some (.slice Ao19 t104.length co19) := (blk_cell BK113.out 3).trans rfl; have hcz29_4 : w28.cell? ⟨gb113, 4, none⟩ = some (.slice Ao20 t107.length co20) := (blk_cell BK113.out 4).trans rfl; have hcz29_5 : w28.cell? ⟨gb113, 5, none⟩ = some (.slice Ao21 t110.length co21) := (blk_cell BK113.out 5).trans rfl; have hfz29_0 := blk_frozen BK113.out 0; have hfz29_1 := blk_frozen BK113.out 1; have hfz29_2 := blk_frozen BK113.out 2; have hfz29_3 := blk_frozen BK113.out 3; have hfz29_4 := blk_frozen BK113.out 4; have hfz29_5 := blk_frozen BK113.out 5) | (go_at_call 15; (with_reducible refine (spec_VectorOf.calls kj2 t101 t102 t103 _ _ t104 _ _ t107 _ _ t110 _ _ t114 _ _ t118 t125 t128 _ ?side1 ?side2 ?side3 ?side4 ?side5 ?side6 ?side7 ?side8 ?side9 ?side10 A14.out).mono ?_); (case side1 => exact qc_ (Kd.R_reads' HO106.out).2.2); (case side2 => exact (Kd.R_reads' HO106.out).2.1); (case side3 => exact qc_ (Kd.R_reads' HO109.out).2.2); (case side4 => exact (Kd.R_reads' HO109.out).2.1); (case side5 => exact qc_ (Kd.R_reads' HO112.out).2.2); (case side6 => exact (Kd.R_reads' HO112.out).2.1); (case side7 => exact qc_ (Kd.R_reads' HO116.out).2.2); (case side8 => exact (Kd.R_reads' HO116.out).2.1); (case side9 => exact qc_ (Kd.R_reads' HO120.out).2.2); (case side10 => exact (Kd.R_reads' HO120.out).2.1); rintro e w30 ⟨v126, rfl, ho0, hb⟩; have n0_ := am_ (Kd.R_below qz28_ hb); have n1_ := am_ (Kd.R_below qz27_ hb); have n2_ := am_ (Kd.R_below qz23_ hb); have n3_ := am_ (Kd.R_elder' qz17_ (Kd.R_base ho0) hb); have n4_ := am_ (Kd.R_elder' qz32_ (Kd.R_base ho0) hb); have n5_ := am_ (Kd.R_elder' qz33_ (Kd.R_base ho0) hb); have n6_ := am_ (Kd.R_lower (Kd.R_new' (Kd.R_new' (Kd.R_new' ho0 (Kd.R_lt qz17_)) (Kd.R_lt qz32_)) (Kd.R_lt qz33_)) (below_size qz29_)); have n7_ := am_ (blk_below (g := gb113) (o := .cells #[.int .i64 t101, .int .i64 t102, .int .i64 t103, .slice Ao19 t104.length co19, .slice Ao20 t107.length co20, .slice Ao21 t110.length co21] 29 (0, 0)) qz31_ hb); have n8_ := am_ (below_step qz29_ hb); clear HO106; clear HO109; clear HO112; clear HO116; clear HO120; clear HO123; clear BK113; clear HB; have HO106 := n0_; have HO109 := n1_; have HO112 := n2_; have HO116 := n3_; have HO120 := n4_; have HO123 := n5_; have HO127 := n6_; have BK113 := n7_; have HB := n8_; clear n0_ n1_ n2_ n3_ n4_ n5_ n6_ n7_ n8_; (try clear hb); (try clear hb2); (try clear hk); (try clear hi); (try clear ho0))); go_upto_region 8 with (first | (go_at_call 26; (with_reducible refine (spec_SystemDrawn.calls kj2 _ _ l0 t101 t102 t103 t104 t107 t110 _ ?side1 ?side2 A6.out).mono ?_); (case side1 => exact qc_ (Kd.C_below HR0.out HB.out)); (case side2 => exact HC0.out); rintro e w16 ⟨v105, v108, v111, rfl, ho0, ho1, ho2, hb⟩; have n0_ := am_ (Kd.R_lower ho0 (below_size qz2_)); have n1_ := am_ (Kd.R_lower ho1 (below_size qz2_)); have n2_ := am_ (Kd.R_lower ho2 (below_size qz2_)); have n3_ := am_ (below_step qz2_ hb); clear HB; have HO106 := n0_; have HO109 := n1_; have HO112 := n2_; have HB := n3_; clear n0_ n1_ n2_ n3_; (try clear hb); (try clear hb2); (try clear hk); (try clear hi); (try clear ho0); (try clear ho1); (try clear ho2)) | ((with_reducible refine gate_dst (N := 5) rfl ?_); (try (refine gate_guard (by rfl) ?_; dsimp only)); refine box_event ?hg (N := 5) ?hd (cs := #[.int .i64 0, .int .i64 0, .int .i64 0, .slice none 0 0, .slice none 0 0, .slice none 0 0]) (t := 29) ?hr ?_; (case hd => rfl); (case hg => rfl); (case hr => first | (go_simp; done) | (go_simp; rfl)); intro gb113 hg w17 hbox hb; have n0_ := am_ (Kd.R_below qz28_ hb); have n1_ := am_ (Kd.R_below qz27_ hb); have n2_ := am_ (Kd.R_below qz23_ hb); have n3_ := am_ (below_step qz2_ hb); have n4_ := am_ (hbox); have n5_ := am_ ((by rw [hg]; exact (below_size qz2_) : w.heap.size ≤ gb113)); have n6_ := am_ ((by rw [hg]; exact (below_size qz2_) : w.heap.size ≤ gb113)); clear HO106; clear HO109; clear HO112; clear HB; have HO106 := n0_; have HO109 := n1_; have HO112 := n2_; have HB := n3_; have BK113 := n4_; have GW113 := n5_; have GE113 := n6_; clear n0_ n1_ n2_ n3_ n4_ n5_ n6_; clear hb hbox hg; have hcz18_0 : w17.cell? ⟨gb113, 0, none⟩ = some (.int .i64 0) := (blk_cell BK113.out 0).trans rfl; have hcz18_1 : w17.cell? ⟨gb113, 1, none⟩ = some (.int .i64 0) := (blk_cell BK113.out 1).trans rfl; have hcz18_2 : w17.cell? ⟨gb113, 2, none⟩ = some (.int .i64 0) := (blk_cell BK113.out 2).trans rfl; have hcz18_3 : w17.cell? ⟨gb113, 3, none⟩ = some (.slice none 0 0) := (blk_cell BK113.out 3).trans rfl; have hcz18_4 : w17.cell? ⟨gb113, 4, none⟩ = some (.slice none 0 0) := (blk_cell BK113.out 4).trans rfl; have hcz18_5 : w17.cell? ⟨gb113, 5, none⟩ = some (.slice none 0 0) := (blk_cell BK113.out 5).trans rfl; have hfz18_0 := blk_frozen BK113.out 0; have hfz18_1 := blk_frozen BK113.out 1; have hfz18_2 := blk_frozen BK113.out 2; have hfz18_3 := blk_frozen BK113.out 3; have hfz18_4 := blk_frozen BK113.out 4; have hfz18_5 := blk_frozen BK113.out 5; obtain ⟨Ao19, co19, eo19⟩ := Kd.R_slice HO106.out; subst eo19; obtain ⟨Ao20, co20, eo20⟩ := Kd.R_slice HO109.out; subst eo20; obtain ⟨Ao21, co21, eo21⟩ := Kd.R_slice HO112.out; subst eo21) | (go_at_call 27; (with_reducible refine (spec_NumbersOf.calls kj2 _ _ l1 t103 t114 _ ?side1 ?side2 A7.out).mono ?_); (case side1 => exact Kd.C_below HR1.out qz29_); (case side2 => exact HC1.out); rintro e w22 ⟨v115, rfl, ho0, hb⟩; have n0_ := am_ (Kd.R_below (by (with_reducible repeat (first | apply Kd.R_alloc | apply Kd.R_drewN | apply Kd.R_drew)); exact (Kd.R_mono (Kd.R_far (p := ⟨gb113, 5, none⟩) (Kd.R_far (p := ⟨gb113, 4, none⟩) (Kd.R_far (p := ⟨gb113, 3, none⟩) (Kd.R_far (p := ⟨gb113, 2, none⟩) (Kd.R_far (p := ⟨gb113, 1, none⟩) (Kd.R_far (p := ⟨gb113, 0, none⟩) (Kd.R_types HO106.out BK113.out (by decide)) (fun _ hk => hk.2) (.int .i64 t101)) (fun _ hk => hk.2) (.int .i64 t102)) (fun _ hk => hk.2) (.int .i64 t103)) (fun _ hk => hk.2) (.slice Ao19 t104.length co19)) (fun _ hk => hk.2) (.slice Ao20 t107.length co20)) (fun _ hk => hk.2) (.slice Ao21 t110.length co21)) (fun _ h_ => h_.1))) hb); have n1_ := am_ (Kd.R_below (by (with_reducible repeat (first | apply Kd.R_alloc | apply Kd.R_drewN | apply Kd.R_drew)); exact (Kd.R_mono (Kd.R_far (p := ⟨gb113, 5, none⟩) (Kd.R_far (p := ⟨gb113, 4, none⟩) (Kd.R_far (p := ⟨gb113, 3, none⟩) (Kd.R_far (p := ⟨gb113, 2, none⟩) (Kd.R_far (p := ⟨gb113, 1, none⟩) (Kd.R_far (p := ⟨gb113, 0, none⟩) (Kd.R_types HO109.out BK113.out (by decide)) (fun _ hk => hk.2) (.int .i64 t101)) (fun _ hk => hk.2) (.int .i64 t102)) (fun _ hk => hk.2) (.int .i64 t103)) (fun _ hk => hk.2) (.slice Ao19 t104.length co19)) (fun _ hk => hk.2) (.slice Ao20 t107.length co20)) (fun _ hk => hk.2) (.slice Ao21 t110.length co21)) (fun _ h_ => h_.1))) hb); have n2_ := am_ (Kd.R_below (by (with_reducible repeat (first | apply Kd.R_alloc | apply Kd.R_drewN | apply Kd.R_drew)); exact (Kd.R_mono (Kd.R_far (p := ⟨gb113, 5, none⟩) (Kd.R_far (p := ⟨gb113, 4, none⟩) (Kd.R_far (p := ⟨gb113, 3, none⟩) (Kd.R_far (p := ⟨gb113, 2, none⟩) (Kd.R_far (p := ⟨gb113, 1, none⟩) (Kd.R_far (p := ⟨gb113, 0, none⟩) (Kd.R_types HO112.out BK113.out (by decide)) (fun _ hk => hk.2) (.int .i64 t101)) (fun _ hk => hk.2) (.int .i64 t102)) (fun _ hk => hk.2) (.int .i64 t103)) (fun _ hk => hk.2) (.slice Ao19 t104.length co19)) (fun _ hk => hk.2) (.slice Ao20 t107.length co20)) (fun _ hk => hk.2) (.slice Ao21 t110.length co21)) (fun _ h_ => h_.1))) hb); have n3_ := am_ (Kd.R_lower ho0 (below_size qz29_)); have n4_ := am_ (blk_below (g := gb113) (o := .cells #[.int .i64 t101, .int .i64 t102, .int .i64 t103, .slice Ao19 t104.length co19, .slice Ao20 t107.length co20, .slice Ao21 t110.length co21] 29 (0, 0)) qz30_ hb); have n5_ := am_ (below_step qz29_ hb); clear HO106; clear HO109; clear HO112; clear BK113; clear HB; have HO106 := n0_; have HO109 := n1_; have HO112 := n2_; have HO116 := n3_; have BK113 := n4_; have HB := n5_; clear n0_ n1_ n2_ n3_ n4_ n5_; (try clear hb); (try clear hb2); (try clear hk); (try clear hi); (try clear ho0); have hcz23_0 : w22.cell? ⟨gb113, 0, none⟩ = some (.int .i64 t101) := (blk_cell BK113.out 0).trans rfl; have hcz23_1 : w22.cell? ⟨gb113, 1, none⟩ = some (.int .i64 t102) := (blk_cell BK113.out 1).trans rfl; have hcz23_2 : w22.cell? ⟨gb113, 2, none⟩ = some (.int .i64 t103) := (blk_cell BK113.out 2).trans rfl; have hcz23_3 : w22.cell? ⟨gb113, 3, none⟩ = some (.slice Ao19 t104.length co19) := (blk_cell BK113.out 3).trans rfl; have hcz23_4 : w22.cell? ⟨gb113, 4, none⟩ = some (.slice Ao20 t107.length co20) := (blk_cell BK113.out 4).trans rfl; have hcz23_5 : w22.cell? ⟨gb113, 5, none⟩ = some (.slice Ao21 t110.length co21) := (blk_cell BK113.out 5).trans rfl; have hfz23_0 := blk_frozen BK113.out 0; have hfz23_1 := blk_frozen BK113.out 1; have hfz23_2 := blk_frozen BK113.out 2; have hfz23_3 := blk_frozen BK113.out 3; have hfz23_4 := blk_frozen BK113.out 4; have hfz23_5 := blk_frozen BK113.out 5) | (go_at_call 28; (with_reducible refine (laws_at.calls _ _ l1 0 ji10 t117 _ ?side1 ?side2 A11.out).mono ?_); (case side1 => exact qc_ (Kd.C_below HR1.out HB.out)); (case side2 => exact HC1.out); rintro e w' ⟨rfl, ⟨nd, rfl⟩⟩; (try first | exact ⟨rfl, _, qd1_⟩ | exact ⟨rfl, _, qd2_⟩)) | (go_at_call 27; (with_reducible refine (spec_NumbersOf.calls kj2 _ _ l1 (wrap64 (1 + t117)) t118 _ ?side1 ?side2 A12.out).mono ?_); (case side1 => repeat (first | exact (Kd.C_below HR1.out qz29_) | (with_reducible refine Kd.C_alloc ?_ _) | (with_reducible refine Kd.C_drewN ?_ _) | (with_reducible refine Kd.C_drew ?_))); (case side2 => exact HC1.out); rintro e w24 ⟨v119, rfl, ho0, hb⟩; have n0_ := am_ (Kd.R_below qz28_ hb); have n1_ := am_ (Kd.R_below qz27_ hb); have n2_ := am_ (Kd.R_below qz23_ hb); have n3_ := am_ (Kd.R_elder' qz17_ (Kd.R_base ho0) hb); have n4_ := am_ (Kd.R_lower (Kd.R_new' ho0 (Kd.R_lt qz17_)) (below_size qz29_)); have n5_ := am_ (blk_below (g := gb113) (o := .cells #[.int .i64 t101, .int .i64 t102, .int .i64 t103, .slice Ao19 t104.length co19, .slice Ao20 t107.length co20, .slice Ao21 t110.length co21] 29 (0, 0)) qz31_ hb); have n6_ := am_ (below_step qz29_ hb); clear HO106; clear HO109; clear HO112; clear HO116; clear BK113; clear HB; have HO106 := n0_; have HO109 := n1_; have HO112 := n2_; have HO116 := n3_; have HO120 := n4_; have BK113 := n5_; have HB := n6_; clear n0_ n1_ n2_ n3_ n4_ n5_ n6_; (try clear hb); (try clear hb2); (try clear hk); (try clear hi); (try clear ho0); have hcz25_0 : w24.cell? ⟨gb113, 0, none⟩ = some (.int .i64 t101) := (blk_cell BK113.out 0).trans rfl; have hcz25_1 : w24.cell? ⟨gb113, 1, none⟩ = some (.int .i64 t102) := (blk_cell BK113.out 1).trans rfl; have hcz25_2 : w24.cell? ⟨gb113, 2, none⟩ = some (.int .i64 t103) := (blk_cell BK113.out 2).trans rfl; have hcz25_3 : w24.cell? ⟨gb113, 3, none⟩ = some (.slice Ao19 t104.length co19) := (blk_cell BK113.out 3).trans rfl; have hcz25_4 : w24.cell? ⟨gb113, 4, none⟩ = some (.slice Ao20 t107.length co20) := (blk_cell BK113.out 4).trans rfl; have hcz25_5 : w24.cell? ⟨gb113, 5, none⟩ = some (.slice Ao21 t110.length co21) := (blk_cell BK113.out 5).trans rfl; have hfz25_0 := blk_frozen BK113.out 0; have hfz25_1 := blk_frozen BK113.out 1; have hfz25_2 := blk_frozen BK113.out 2; have hfz25_3 := blk_frozen BK113.out 3; have hfz25_4 := blk_frozen BK113.out 4; have hfz25_5 := blk_frozen BK113.out 5; obtain ⟨Ao26, co26, eo26⟩ := Kd.R_slice HO116.out; subst eo26; obtain ⟨Ao27, co27, eo27⟩ := Kd.R_slice HO120.out; subst eo27) | (go_at_call 17; (with_reducible refine (impl_VectorOf.calls kj2 t101 t102 t103 _ _ t104 _ _ t107 _ _ t110 _ _ t114 _ _ t118 t121 t124 _ ?side1 ?side2 ?side3 ?side4 ?side5 ?side6 ?side7 ?side8 ?side9 ?side10 A13.out).mono ?_); (case side1 => exact qc_ (Kd.R_reads' HO106.out).2.2); (case side2 => exact (Kd.R_reads' HO106.out).2.1); (case side3 => exact qc_ (Kd.R_reads' HO109.out).2.2); (case side4 => exact (Kd.R_reads' HO109.out).2.1); (case side5 => exact qc_ (Kd.R_reads' HO112.out).2.2); (case side6 => exact (Kd.R_reads' HO112.out).2.1); (case side7 => exact qc_ (Kd.R_reads' HO116.out).2.2); (case side8 => exact (Kd.R_reads' HO116.out).2.1); (case side9 => exact qc_ (Kd.R_reads' HO120.out).2.2); (case side10 => exact (Kd.R_reads' HO120.out).2.1); rintro e w28 ⟨v122, rfl, ho0, hb⟩; have n0_ := am_ (Kd.R_below qz28_ hb); have n1_ := am_ (Kd.R_below qz27_ hb); have n2_ := am_ (Kd.R_below qz23_ hb); have n3_ := am_ (Kd.R_elder' qz17_ (Kd.R_base ho0) hb); have n4_ := am_ (Kd.R_elder' qz32_ (Kd.R_base ho0) hb); have n5_ := am_ (Kd.R_lower (Kd.R_new' (Kd.R_new' ho0 (Kd.R_lt qz17_)) (Kd.R_lt qz32_)) (below_size qz29_)); have n6_ := am_ (blk_below (g := gb113) (o := .cells #[.int .i64 t101, .int .i64 t102, .int .i64 t103, .slice Ao19 t104.length co19, .slice Ao20 t107.length co20, .slice Ao21 t110.length co21] 29 (0, 0)) qz31_ hb); have n7_ := am_ (below_step qz29_ hb); clear HO106; clear HO109; clear HO112; clear HO116; clear HO120; clear BK113; clear HB; have HO106 := n0_; have HO109 := n1_; have HO112 := n2_; have HO116 := n3_; have HO120 := n4_; have HO123 := n5_; have BK113 := n6_; have HB := n7_; clear n0_ n1_ n2_ n3_ n4_ n5_ n6_ n7_; (try clear hb); (try clear hb2); (try clear hk); (try clear hi); (try clear ho0); have hcz29_0 : w28.cell? ⟨gb113, 0, none⟩ = some (.int .i64 t101) := (blk_cell BK113.out 0).trans rfl; have hcz29_1 : w28.cell? ⟨gb113, 1, none⟩ = some (.int .i64 t102) := (blk_cell BK113.out 1).trans rfl; have hcz29_2 : w28.cell? ⟨gb113, 2, none⟩ = some (.int .i64 t103) := (blk_cell BK113.out 2).trans rfl; have hcz29_3 : w28.cell? ⟨gb113, 3, none⟩ = some (.slice Ao19 t104.length co19) := (blk_cell BK113.out 3).trans rfl; have hcz29_4 : w28.cell? ⟨gb113, 4, none⟩ = some (.slice Ao20 t107.length co20) := (blk_cell BK113.out 4).trans rfl; have hcz29_5 : w28.cell? ⟨gb113, 5, none⟩ = some (.slice Ao21 t110.length co21) := (blk_cell BK113.out 5).trans rfl; have hfz29_0 := blk_frozen BK113.out 0; have hfz29_1 := blk_frozen BK113.out 1; have hfz29_2 := blk_frozen BK113.out 2; have hfz29_3 := blk_frozen BK113.out 3; have hfz29_4 := blk_frozen BK113.out 4; have hfz29_5 := blk_frozen BK113.out 5) | (go_at_call 15; (with_reducible refine (spec_VectorOf.calls kj2 t101 t102 t103 _ _ t104 _ _ t107 _ _ t110 _ _ t114 _ _ t118 t125 t128 _ ?side1 ?side2 ?side3 ?side4 ?side5 ?side6 ?side7 ?side8 ?side9 ?side10 A14.out).mono ?_); (case side1 => exact qc_ (Kd.R_reads' HO106.out).2.2); (case side2 => exact (Kd.R_reads' HO106.out).2.1); (case side3 => exact qc_ (Kd.R_reads' HO109.out).2.2); (case side4 => exact (Kd.R_reads' HO109.out).2.1); (case side5 => exact qc_ (Kd.R_reads' HO112.out).2.2); (case side6 => exact (Kd.R_reads' HO112.out).2.1); (case side7 => exact qc_ (Kd.R_reads' HO116.out).2.2); (case side8 => exact (Kd.R_reads' HO116.out).2.1); (case side9 => exact qc_ (Kd.R_reads' HO120.out).2.2); (case side10 => exact (Kd.R_reads' HO120.out).2.1); rintro e w30 ⟨v126, rfl, ho0, hb⟩; have n0_ := am_ (Kd.R_below qz28_ hb); have n1_ := am_ (Kd.R_below qz27_ hb); have n2_ := am_ (Kd.R_below qz23_ hb); have n3_ := am_ (Kd.R_elder' qz17_ (Kd.R_base ho0) hb); have n4_ := am_ (Kd.R_elder' qz32_ (Kd.R_base ho0) hb); have n5_ := am_ (Kd.R_elder' qz33_ (Kd.R_base ho0) hb); have n6_ := am_ (Kd.R_lower (Kd.R_new' (Kd.R_new' (Kd.R_new' ho0 (Kd.R_lt qz17_)) (Kd.R_lt qz32_)) (Kd.R_lt qz33_)) (below_size qz29_)); have n7_ := am_ (blk_below (g := gb113) (o := .cells #[.int .i64 t101, .int .i64 t102, .int .i64 t103, .slice Ao19 t104.length co19, .slice Ao20 t107.length co20, .slice Ao21 t110.length co21] 29 (0, 0)) qz31_ hb); have n8_ := am_ (below_step qz29_ hb); clear HO106; clear HO109; clear HO112; clear HO116; clear HO120; clear HO123; clear BK113; clear HB; have HO106 := n0_; have HO109 := n1_; have HO112 := n2_; have HO116 := n3_; have HO120 := n4_; have HO123 := n5_; have HO127 := n6_; have BK113 := n7_; have HB := n8_; clear n0_ n1_ n2_ n3_ n4_ n5_ n6_ n7_ n8_; (try clear hb); (try clear hb2); (try clear hk); (try clear hi); (try clear ho0))))
     (try simp only [Act.put, List.setIfInBounds_toArray, List.set_cons_zero, List.set_cons_succ])
     go_cut [92] (fun v92 wc => ∃ (kq : Nat) (x92_14 : Bool), v92 = .bool x92_14 ∧ Aside0 (laws_FnSystem.j1 kq t121 x92_14 t101 t102 t103 t104 t107 t110 = some r) ∧ Aside0 (kq ≤ kj2) ∧ Aside0 (Kd.R (Kd.int .i64) 3 wc w.heap.size (fun _ => True) v122 t121) ∧ Aside0 (Kd.R k53 53 wc w.heap.size (fun k_ => some k_ ≠ ((.slice Ao20 t107.length co20) : Value).ownBlock ∧ some k_ ≠ ((.slice Ao21 t110.length co21) : Value).ownBlock) (.slice Ao19 t104.length co19) t104) ∧ Aside0 (Kd.R k53 53 wc w.heap.size (fun k_ => some k_ ≠ ((.slice Ao19 t104.length co19) : Value).ownBlock ∧ some k_ ≠ ((.slice Ao21 t110.length co21) : Value).ownBlock) (.slice Ao20 t107.length co20) t107) ∧ Aside0 (Kd.R k53 53 wc w.heap.size (fun k_ => some k_ ≠ ((.slice Ao19 t104.length co19) : Value).ownBlock ∧ some k_ ≠ ((.slice Ao20 t107.length co20) : Value).ownBlock) (.slice Ao21 t110.length co21) t110) ∧ Aside0 (wc.heap[gb113]? = some (.cells #[.int .i64 t101, .int .i64 t102, .int .i64 t103, (.slice Ao19 t104.length co19), (.slice Ao20 t107.length co20), (.slice Ao21 t110.length co21)] 29 (0, 0))) ∧ Aside0 (Below w.heap.size w wc))
     case first =>
      have H := HC15.out
      clear HC15
      by_cases c31 : t124 = 0
      ·
       rw [if_pos c31] at H
       have c31b0 : (t124 == 0) = true := beq_iff_eq.mpr c31
       have c31b1 : (t124 != 0) = false := bne_eq_false_iff_eq.mpr c31
       clear c31
       (first | rw [c31b0] | (simp only [i64_w, i32_w]; rw [c31b0]) | skip)
       replace H := Option.bind_eq_some_iff.mp H
       obtain ⟨t129, A320, H⟩ := H
       replace H : (if t129 = true then (if 0 ≤ (IntKind.u64.wrap (t102)) then (if (t121.length : Int) = (shl .i64 1 (IntKind.u64.wrap (t102))) then (if 0 < (t121.length : Int) then (laws_FnSystem.j1 kj2 t121 ((rd t121 0) != 1) t101 t102 t103 t104 t107 t110) else (none)) else (laws_FnSystem.j1 kj2 t121 true t101 t102 t103 t104 t107 t110)) else (none)) else (laws_FnSystem.j1 kj2 t121 true t101 t102 t103 t104 t107 t110)) = some r := H
       have A32 := am_ A320
       clear A320
       by_cases c33 : t129 = true
       ·
        subst c33
        have H1 : (if 0 ≤ (IntKind.u64.wrap (t102)) then (if (t121.length : Int) = (shl .i64 1 (IntKind.u64.wrap (t102))) then (if 0 < (t121.length : Int) then (laws_FnSystem.j1 kj2 t121 ((rd t121 0) != 1) t101 t102 t103 t104 t107 t110) else (none)) else (laws_FnSystem.j1 kj2 t121 true t101 t102 t103 t104 t107 t110)) else (none)) = some r := by rw [if_pos rfl] at H; exact H
        clear H
        have H := H1
        clear H1
        obtain ⟨ji34, hji34⟩ : ∃ j_ : Int, (IntKind.u64.wrap (t102)) = j_ := ⟨_, rfl⟩
        replace H : (if 0 ≤ (ji34) then (if (t121.length : Int) = (shl .i64 1 (ji34)) then (if 0 < (t121.length : Int) then (laws_FnSystem.j1 kj2 t121 ((rd t121 0) != 1) t101 t102 t103 t104 t107 t110) else (none)) else (laws_FnSystem.j1 kj2 t121 true t101 t102 t103 t104 t107 t110)) else (none)) = some r := by first | (rw [hji34] at H; exact H) | (simp only [hji34] at H ⊢; exact H)
        (try rw [hji34] at A32)
        by_cases c35 : 0 ≤ (ji34)
        ·
         rw [if_pos c35] at H
         have c35b0 := eq_true c35
         have c35b1 : decide (0 ≤ (ji34)) = true := decide_eq_true c35
         clear c35
         obtain ⟨ji36, hji36⟩ : ∃ j_ : Int, (shl .i64 1 (ji34)) = j_ := ⟨_, rfl⟩
         replace H : (if (t121.length : Int) = (ji36) then (if 0 < (t121.length : Int) then (laws_FnSystem.j1 kj2 t121 ((rd t121 0) != 1) t101 t102 t103 t104 t107 t110) else (none)) else (laws_FnSystem.j1 kj2 t121 true t101 t102 t103 t104 t107 t110)) = some r := by first | (rw [hji36] at H; exact H) | (simp only [hji36] at H ⊢; exact H)
         (try rw [hji36] at A32)
         have hji36_ : (IntKind.i64.wrap (1 * 2 ^ min (ji34).toNat 64)) = ji36 := hji36
         have hji36z : (ji34) ≤ 64 → (IntKind.i64.wrap (1 * 2 ^ (ji34).toNat)) = ji36 := shl_small hji36
         have hji36u : (IntKind.i64.wrap (2 ^ min (ji34).toNat 64)) = ji36 := by have h_ := hji36_; rw [Int.one_mul] at h_; exact h_
         have hji36v : (ji34) ≤ 64 → (IntKind.i64.wrap (2 ^ (ji34).toNat)) = ji36 := fun hle_ => by have h_ := hji36z hle_; rw [Int.one_mul] at h_; exact h_
         have hji36y : (wrap64 (1 * 2 ^ min (ji34).toNat 64)) = ji36 := (i64_w _).symm.trans hji36_
         have hji36x : (ji34) ≤ 64 → (wrap64 (1 * 2 ^ (ji34).toNat)) = ji36 := fun h_ => (i64_w _).symm.trans (hji36z h_)
         by_cases c37 : (t121.length : Int) = (ji36)
         ·
          rw [if_pos c37] at H
          have c37b0 : ((t121.length : Int) == (ji36)) = true := beq_iff_eq.mpr c37
          have c37b1 : ((t121.length : Int) != (ji36)) = false := bne_eq_false_iff_eq.mpr c37
          clear c37
          by_cases c38 : 0 < (t121.length : Int)
          ·
           rw [if_pos c38] at H
           have c38b0 : decide (0 < (t121.length : Int)) = true := decide_eq_true c38
           have c38b1 : decide (0 < t121.length) = true := decide_eq_true (by omega)
           clear c38
           have H' := am_ H
           clear H
           obtain ⟨Ao39, co39, eo39⟩ := Kd.R_slice HO123.out
           subst eo39
           obtain ⟨Ao40, co40, eo40⟩ := Kd.R_slice HO127.out
           subst eo40
           go_wp2_with (first | (go_at_call 29; (with_reducible refine (laws_sameInts.calls kj2 _ _ t121 _ _ t125 true _ ?side1 ?side2 ?side3 ?side4 A32.out).mono ?_); (case side1 => exact qc_ (Kd.R_reads' HO123.out).2.2); (case side2 => exact (Kd.R_reads' HO123.out).2.1); (case side3 => exact qc_ (Kd.R_reads' HO127.out).2.2); (case side4 => exact (Kd.R_reads' HO127.out).2.1); rintro e w' ⟨rfl, ⟨nd, rfl⟩⟩; (try first | exact ⟨rfl, _, qd1_⟩ | exact ⟨rfl, _, qd2_⟩); have hcz41_0 : w30.cell? ⟨gb113, 0, none⟩ = some (.int .i64 t101) := (blk_cell BK113.out 0).trans rfl; have hcz41_1 : w30.cell? ⟨gb113, 1, none⟩ = some (.int .i64 t102) := (blk_cell BK113.out 1).trans rfl; have hcz41_2 : w30.cell? ⟨gb113, 2, none⟩ = some (.int .i64 t103) := (blk_cell BK113.out 2).trans rfl; have hcz41_3 : w30.cell? ⟨gb113, 3, none⟩ = some (.slice Ao19 t104.length co19) := (blk_cell BK113.out 3).trans rfl; have hcz41_4 : w30.cell? ⟨gb113, 4, none⟩ = some (.slice Ao20 t107.length co20) := (blk_cell BK113.out 4).trans rfl; have hcz41_5 : w30.cell? ⟨gb113, 5, none⟩ = some (.slice Ao21 t110.length co21) := (blk_cell BK113.out 5).trans rfl; have hfz41_0 := blk_frozen BK113.out 0; have hfz41_1 := blk_frozen BK113.out 1; have hfz41_2 := blk_frozen BK113.out 2; have hfz41_3 := blk_frozen BK113.out 3; have hfz41_4 := blk_frozen BK113.out 4; have hfz41_5 := blk_frozen BK113.out 5; have p130 : 0 ≤ (0 : Int) := (by omega); have q130 : 0 < (t121.length : Int) := of_decide_eq_true qz4_; obtain ⟨ad130, e130, hx130_0⟩ := Kd.at_int (Kd.R_reads' HO123.out).2.2 0 p130 q130; cases e130; have qi130 : (0 < t121.length) = True := eq_true (by omega); (try rw [show ((0 : Int)).toNat = 0 from rfl] at hx130_0); (try rw [Addr.add_zero'] at hx130_0); replace p130 := eq_true p130; replace q130 := eq_true q130))
           repeat (go_quiet (first | (go_at_call 29; (with_reducible refine (laws_sameInts.calls kj2 _ _ t121 _ _ t125 true _ ?side1 ?side2 ?side3 ?side4 A32.out).mono ?_); (case side1 => exact qc_ (Kd.R_reads' HO123.out).2.2); (case side2 => exact (Kd.R_reads' HO123.out).2.1); (case side3 => exact qc_ (Kd.R_reads' HO127.out).2.2); (case side4 => exact (Kd.R_reads' HO127.out).2.1); rintro e w' ⟨rfl, ⟨nd, rfl⟩⟩; (try first | exact ⟨rfl, _, qd1_⟩ | exact ⟨rfl, _, qd2_⟩); have hcz41_0 : w30.cell? ⟨gb113, 0, none⟩ = some (.int .i64 t101) := (blk_cell BK113.out 0).trans rfl; have hcz41_1 : w30.cell? ⟨gb113, 1, none⟩ = some (.int .i64 t102) := (blk_cell BK113.out 1).trans rfl; have hcz41_2 : w30.cell? ⟨gb113, 2, none⟩ = some (.int .i64 t103) := (blk_cell BK113.out 2).trans rfl; have hcz41_3 : w30.cell? ⟨gb113, 3, none⟩ = some (.slice Ao19 t104.length co19) := (blk_cell BK113.out 3).trans rfl; have hcz41_4 : w30.cell? ⟨gb113, 4, none⟩ = some (.slice Ao20 t107.length co20) := (blk_cell BK113.out 4).trans rfl; have hcz41_5 : w30.cell? ⟨gb113, 5, none⟩ = some (.slice Ao21 t110.length co21) := (blk_cell BK113.out 5).trans rfl; have hfz41_0 := blk_frozen BK113.out 0; have hfz41_1 := blk_frozen BK113.out 1; have hfz41_2 := blk_frozen BK113.out 2; have hfz41_3 := blk_frozen BK113.out 3; have hfz41_4 := blk_frozen BK113.out 4; have hfz41_5 := blk_frozen BK113.out 5; have p130 : 0 ≤ (0 : Int) := (by omega); have q130 : 0 < (t121.length : Int) := of_decide_eq_true qz4_; obtain ⟨ad130, e130, hx130_0⟩ := Kd.at_int (Kd.R_reads' HO123.out).2.2 0 p130 q130; cases e130; have qi130 : (0 < t121.length) = True := eq_true (by omega); (try rw [show ((0 : Int)).toNat = 0 from rfl] at hx130_0); (try rw [Addr.add_zero'] at hx130_0); replace p130 := eq_true p130; replace q130 := eq_true q130)); try go_wp2_with (first | (go_at_call 29; (with_reducible refine (laws_sameInts.calls kj2 _ _ t121 _ _ t125 true _ ?side1 ?side2 ?side3 ?side4 A32.out).mono ?_); (case side1 => exact qc_ (Kd.R_reads' HO123.out).2.2); (case side2 => exact (Kd.R_reads' HO123.out).2.1); (case side3 => exact qc_ (Kd.R_reads' HO127.out).2.2); (case side4 => exact (Kd.R_reads' HO127.out).2.1); rintro e w' ⟨rfl, ⟨nd, rfl⟩⟩; (try first | exact ⟨rfl, _, qd1_⟩ | exact ⟨rfl, _, qd2_⟩); have hcz41_0 : w30.cell? ⟨gb113, 0, none⟩ = some (.int .i64 t101) := (blk_cell BK113.out 0).trans rfl; have hcz41_1 : w30.cell? ⟨gb113, 1, none⟩ = some (.int .i64 t102) := (blk_cell BK113.out 1).trans rfl; have hcz41_2 : w30.cell? ⟨gb113, 2, none⟩ = some (.int .i64 t103) := (blk_cell BK113.out 2).trans rfl; have hcz41_3 : w30.cell? ⟨gb113, 3, none⟩ = some (.slice Ao19 t104.length co19) := (blk_cell BK113.out 3).trans rfl; have hcz41_4 : w30.cell? ⟨gb113, 4, none⟩ = some (.slice Ao20 t107.length co20) := (blk_cell BK113.out 4).trans rfl; have hcz41_5 : w30.cell? ⟨gb113, 5, none⟩ = some (.slice Ao21 t110.length co21) := (blk_cell BK113.out 5).trans rfl; have hfz41_0 := blk_frozen BK113.out 0; have hfz41_1 := blk_frozen BK113.out 1; have hfz41_2 := blk_frozen BK113.out 2; have hfz41_3 := blk_frozen BK113.out 3; have hfz41_4 := blk_frozen BK113.out 4; have hfz41_5 := blk_frozen BK113.out 5; have p130 : 0 ≤ (0 : Int) := (by omega); have q130 : 0 < (t121.length : Int) := of_decide_eq_true qz4_; obtain ⟨ad130, e130, hx130_0⟩ := Kd.at_int (Kd.R_reads' HO123.out).2.2 0 p130 q130; cases e130; have qi130 : (0 < t121.length) = True := eq_true (by omega); (try rw [show ((0 : Int)).toNat = 0 from rfl] at hx130_0); (try rw [Addr.add_zero'] at hx130_0); replace p130 := eq_true p130; replace q130 := eq_true q130)))
           go_meet
           case rel => exact ⟨_, (((rd t121 0) != 1)), qz0_, H', ⟨(by have := HJ2.out; first | omega | exact Nat.le_refl _)⟩, ⟨(by (with_reducible repeat (first | apply Kd.R_alloc | apply Kd.R_drewN | apply Kd.R_drew)); exact Kd.R_mono HO123.out (fun _ hk => trivial))⟩, ⟨qz28_⟩, ⟨qz27_⟩, ⟨qz23_⟩, ⟨qz31_⟩, ⟨qz29_⟩⟩
          ·
           rw [if_neg c38] at H
           exact absurd H (by simp)
         ·
          rw [if_neg c37] at H
          have c37b0 : ((t121.length : Int) == (ji36)) = false := beq_eq_false_iff_ne.mpr c37
          have c37b1 : ((t121.length : Int) != (ji36)) = true := bne_iff_ne.mpr c37
          have H' := am_ H
          clear H
          obtain ⟨Ao42, co42, eo42⟩ := Kd.R_slice HO123.out
          subst eo42
          obtain ⟨Ao43, co43, eo43⟩ := Kd.R_slice HO127.out
          subst eo43
          go_wp2_with (first | (go_at_call 29; (with_reducible refine (laws_sameInts.calls kj2 _ _ t121 _ _ t125 true _ ?side1 ?side2 ?side3 ?side4 A32.out).mono ?_); (case side1 => exact qc_ (Kd.R_reads' HO123.out).2.2); (case side2 => exact (Kd.R_reads' HO123.out).2.1); (case side3 => exact qc_ (Kd.R_reads' HO127.out).2.2); (case side4 => exact (Kd.R_reads' HO127.out).2.1); rintro e w' ⟨rfl, ⟨nd, rfl⟩⟩; (try first | exact ⟨rfl, _, qd1_⟩ | exact ⟨rfl, _, qd2_⟩); have hcz44_0 : w30.cell? ⟨gb113, 0, none⟩ = some (.int .i64 t101) := (blk_cell BK113.out 0).trans rfl; have hcz44_1 : w30.cell? ⟨gb113, 1, none⟩ = some (.int .i64 t102) := (blk_cell BK113.out 1).trans rfl; have hcz44_2 : w30.cell? ⟨gb113, 2, none⟩ = some (.int .i64 t103) := (blk_cell BK113.out 2).trans rfl; have hcz44_3 : w30.cell? ⟨gb113, 3, none⟩ = some (.slice Ao19 t104.length co19) := (blk_cell BK113.out 3).trans rfl; have hcz44_4 : w30.cell? ⟨gb113, 4, none⟩ = some (.slice Ao20 t107.length co20) := (blk_cell BK113.out 4).trans rfl; have hcz44_5 : w30.cell? ⟨gb113, 5, none⟩ = some (.slice Ao21 t110.length co21) := (blk_cell BK113.out 5).trans rfl; have hfz44_0 := blk_frozen BK113.out 0; have hfz44_1 := blk_frozen BK113.out 1; have hfz44_2 := blk_frozen BK113.out 2; have hfz44_3 := blk_frozen BK113.out 3; have hfz44_4 := blk_frozen BK113.out 4; have hfz44_5 := blk_frozen BK113.out 5))
          repeat (go_quiet (first | (go_at_call 29; (with_reducible refine (laws_sameInts.calls kj2 _ _ t121 _ _ t125 true _ ?side1 ?side2 ?side3 ?side4 A32.out).mono ?_); (case side1 => exact qc_ (Kd.R_reads' HO123.out).2.2); (case side2 => exact (Kd.R_reads' HO123.out).2.1); (case side3 => exact qc_ (Kd.R_reads' HO127.out).2.2); (case side4 => exact (Kd.R_reads' HO127.out).2.1); rintro e w' ⟨rfl, ⟨nd, rfl⟩⟩; (try first | exact ⟨rfl, _, qd1_⟩ | exact ⟨rfl, _, qd2_⟩); have hcz44_0 : w30.cell? ⟨gb113, 0, none⟩ = some (.int .i64 t101) := (blk_cell BK113.out 0).trans rfl; have hcz44_1 : w30.cell? ⟨gb113, 1, none⟩ = some (.int .i64 t102) := (blk_cell BK113.out 1).trans rfl; have hcz44_2 : w30.cell? ⟨gb113, 2, none⟩ = some (.int .i64 t103) := (blk_cell BK113.out 2).trans rfl; have hcz44_3 : w30.cell? ⟨gb113, 3, none⟩ = some (.slice Ao19 t104.length co19) := (blk_cell BK113.out 3).trans rfl; have hcz44_4 : w30.cell? ⟨gb113, 4, none⟩ = some (.slice Ao20 t107.length co20) := (blk_cell BK113.out 4).trans rfl; have hcz44_5 : w30.cell? ⟨gb113, 5, none⟩ = some (.slice Ao21 t110.length co21) := (blk_cell BK113.out 5).trans rfl; have hfz44_0 := blk_frozen BK113.out 0; have hfz44_1 := blk_frozen BK113.out 1; have hfz44_2 := blk_frozen BK113.out 2; have hfz44_3 := blk_frozen BK113.out 3; have hfz44_4 := blk_frozen BK113.out 4; have hfz44_5 := blk_frozen BK113.out 5)); try go_wp2_with (first | (go_at_call 29; (with_reducible refine (laws_sameInts.calls kj2 _ _ t121 _ _ t125 true _ ?side1 ?side2 ?side3 ?side4 A32.out).mono ?_); (case side1 => exact qc_ (Kd.R_reads' HO123.out).2.2); (case side2 => exact (Kd.R_reads' HO123.out).2.1); (case side3 => exact qc_ (Kd.R_reads' HO127.out).2.2); (case side4 => exact (Kd.R_reads' HO127.out).2.1); rintro e w' ⟨rfl, ⟨nd, rfl⟩⟩; (try first | exact ⟨rfl, _, qd1_⟩ | exact ⟨rfl, _, qd2_⟩); have hcz44_0 : w30.cell? ⟨gb113, 0, none⟩ = some (.int .i64 t101) := (blk_cell BK113.out 0).trans rfl; have hcz44_1 : w30.cell? ⟨gb113, 1, none⟩ = some (.int .i64 t102) := (blk_cell BK113.out 1).trans rfl; have hcz44_2 : w30.cell? ⟨gb113, 2, none⟩ = some (.int .i64 t103) := (blk_cell BK113.out 2).trans rfl; have hcz44_3 : w30.cell? ⟨gb113, 3, none⟩ = some (.slice Ao19 t104.length co19) := (blk_cell BK113.out 3).trans rfl; have hcz44_4 : w30.cell? ⟨gb113, 4, none⟩ = some (.slice Ao20 t107.length co20) := (blk_cell BK113.out 4).trans rfl; have hcz44_5 : w30.cell? ⟨gb113, 5, none⟩ = some (.slice Ao21 t110.length co21) := (blk_cell BK113.out 5).trans rfl; have hfz44_0 := blk_frozen BK113.out 0; have hfz44_1 := blk_frozen BK113.out 1; have hfz44_2 := blk_frozen BK113.out 2; have hfz44_3 := blk_frozen BK113.out 3; have hfz44_4 := blk_frozen BK113.out 4; have hfz44_5 := blk_frozen BK113.out 5)))
          go_meet
          case rel => exact ⟨_, (true), qz0_, H', ⟨(by have := HJ2.out; first | omega | exact Nat.le_refl _)⟩, ⟨(by (with_reducible repeat (first | apply Kd.R_alloc | apply Kd.R_drewN | apply Kd.R_drew)); exact Kd.R_mono HO123.out (fun _ hk => trivial))⟩, ⟨qz28_⟩, ⟨qz27_⟩, ⟨qz23_⟩, ⟨qz31_⟩, ⟨qz29_⟩⟩
        ·
         rw [if_neg c35] at H
         exact absurd H (by simp)
       ·
        replace c33 := Bool.eq_false_iff.mpr c33
        subst c33
        have H1 : (laws_FnSystem.j1 kj2 t121 true t101 t102 t103 t104 t107 t110) = some r := by rw [if_neg (show ¬ (false = true) by decide)] at H; exact H
        clear H
        have H := H1
        clear H1
        have H' := am_ H
        clear H
        obtain ⟨Ao45, co45, eo45⟩ := Kd.R_slice HO123.out
        subst eo45
        obtain ⟨Ao46, co46, eo46⟩ := Kd.R_slice HO127.out
        subst eo46
        go_wp2_with (first | (go_at_call 29; (with_reducible refine (laws_sameInts.calls kj2 _ _ t121 _ _ t125 false _ ?side1 ?side2 ?side3 ?side4 A32.out).mono ?_); (case side1 => exact qc_ (Kd.R_reads' HO123.out).2.2); (case side2 => exact (Kd.R_reads' HO123.out).2.1); (case side3 => exact qc_ (Kd.R_reads' HO127.out).2.2); (case side4 => exact (Kd.R_reads' HO127.out).2.1); rintro e w' ⟨rfl, ⟨nd, rfl⟩⟩; (try first | exact ⟨rfl, _, qd1_⟩ | exact ⟨rfl, _, qd2_⟩)))
        repeat (go_quiet (first | (go_at_call 29; (with_reducible refine (laws_sameInts.calls kj2 _ _ t121 _ _ t125 false _ ?side1 ?side2 ?side3 ?side4 A32.out).mono ?_); (case side1 => exact qc_ (Kd.R_reads' HO123.out).2.2); (case side2 => exact (Kd.R_reads' HO123.out).2.1); (case side3 => exact qc_ (Kd.R_reads' HO127.out).2.2); (case side4 => exact (Kd.R_reads' HO127.out).2.1); rintro e w' ⟨rfl, ⟨nd, rfl⟩⟩; (try first | exact ⟨rfl, _, qd1_⟩ | exact ⟨rfl, _, qd2_⟩))); try go_wp2_with (first | (go_at_call 29; (with_reducible refine (laws_sameInts.calls kj2 _ _ t121 _ _ t125 false _ ?side1 ?side2 ?side3 ?side4 A32.out).mono ?_); (case side1 => exact qc_ (Kd.R_reads' HO123.out).2.2); (case side2 => exact (Kd.R_reads' HO123.out).2.1); (case side3 => exact qc_ (Kd.R_reads' HO127.out).2.2); (case side4 => exact (Kd.R_reads' HO127.out).2.1); rintro e w' ⟨rfl, ⟨nd, rfl⟩⟩; (try first | exact ⟨rfl, _, qd1_⟩ | exact ⟨rfl, _, qd2_⟩))))
        go_meet
        case rel => exact ⟨_, (true), qz0_, H', ⟨(by have := HJ2.out; first | omega | exact Nat.le_refl _)⟩, ⟨(by (with_reducible repeat (first | apply Kd.R_alloc | apply Kd.R_drewN | apply Kd.R_drew)); exact Kd.R_mono HO123.out (fun _ hk => trivial))⟩, ⟨qz28_⟩, ⟨qz27_⟩, ⟨qz23_⟩, ⟨qz31_⟩, ⟨qz29_⟩⟩
      ·
       rw [if_neg c31] at H
       have c31b0 : (t124 == 0) = false := beq_eq_false_iff_ne.mpr c31
       have c31b1 : (t124 != 0) = true := bne_iff_ne.mpr c31
       (first | rw [c31b0] | (simp only [i64_w, i32_w]; rw [c31b0]) | skip)
       have H' := am_ H
       clear H
       go_wp2
       repeat (go_quiet (fail); try go_wp2)
       go_meet
       case rel => exact ⟨_, (true), qz0_, H', ⟨(by have := HJ2.out; first | omega | exact Nat.le_refl _)⟩, ⟨(by (with_reducible repeat (first | apply Kd.R_alloc | apply Kd.R_drewN | apply Kd.R_drew)); exact Kd.R_mono HO123.out (fun _ hk => trivial))⟩, ⟨qz28_⟩, ⟨qz27_⟩, ⟨qz23_⟩, ⟨qz31_⟩, ⟨qz29_⟩⟩
     case rest =>
      as_aux_lemma =>
      clear HC15
      (try clear c1); (try clear p1); (try clear q1); (try clear hx1); (try clear qi1); (try clear p2); (try clear c3); (try clear c4); (try clear c4b0); (try clear c4b1); (try clear c5); (try clear p6); (try clear c7); (try clear c9); (try clear c9b0); (try clear c9b1); (try clear p13); (try clear q13); (try clear hx13); (try clear qi13); (try clear c31); (try clear c31b0); (try clear c31b1)
      (try clear c33); (try clear c35); (try clear c35b0); (try clear c35b1); (try clear c37); (try clear c37b0); (try clear c37b1); (try clear c38); (try clear c38b0); (try clear c38b1); (try clear hcz18_0); (try clear hcz18_1); (try clear hcz18_2); (try clear hcz18_3); (try clear hcz18_4); (try clear hcz18_5); (try clear hcz23_0); (try clear hcz23_1); (try clear hcz23_2); (try clear hcz23_3)
      (try clear hcz23_4); (try clear hcz23_5); (try clear hcz25_0); (try clear hcz25_1); (try clear hcz25_2); (try clear hcz25_3); (try clear hcz25_4); (try clear hcz25_5); (try clear hcz29_0); (try clear hcz29_1); (try clear hcz29_2); (try clear hcz29_3); (try clear hcz29_4); (try clear hcz29_5); (try clear hcz41_0); (try clear hcz41_1); (try clear hcz41_2); (try clear hcz41_3); (try clear hcz41_4)
      (try clear hcz41_5); (try clear hcz44_0); (try clear hcz44_1); (try clear hcz44_2); (try clear hcz44_3); (try clear hcz44_4); (try clear hcz44_5); (try clear hfz18_0); (try clear hfz18_1); (try clear hfz18_2); (try clear hfz18_3); (try clear hfz18_4); (try clear hfz18_5); (try clear hfz23_0); (try clear hfz23_1); (try clear hfz23_2); (try clear hfz23_3); (try clear hfz23_4); (try clear hfz23_5)
      (try clear hfz25_0); (try clear hfz25_1); (try clear hfz25_2); (try clear hfz25_3); (try clear hfz25_4); (try clear hfz25_5); (try clear hfz29_0); (try clear hfz29_1); (try clear hfz29_2); (try clear hfz29_3); (try clear hfz29_4); (try clear hfz29_5); (try clear hfz41_0); (try clear hfz41_1); (try clear hfz41_2); (try clear hfz41_3); (try clear hfz41_4); (try clear hfz41_5); (try clear hfz44_0)
      (try clear hfz44_1); (try clear hfz44_2); (try clear hfz44_3); (try clear hfz44_4); (try clear hfz44_5); (try clear hx130_0); (try clear p130); (try clear p2); (try clear q130)
      obtain ⟨kq, x92_14, rfl, HA, HJ14, HO_8, HO_114003, HO_114004, HO_114005, BK113, HB⟩ := hcut
      cases kq with
      | zero => exact absurd HA.out (by simp [laws_FnSystem.j1])
      | succ kj14 =>
       have H := HA.out
       clear HA
       simp only [laws_FnSystem.j1] at H
       by_cases c47 : x92_14 = true
       ·
        subst c47
        have H1 : (some false) = some r := by rw [if_pos rfl] at H; exact H
        clear H
        have H := H1
        clear H1
        exact absurd ((Option.some.inj H).trans hr_) (by decide)
       ·
        replace c47 := Bool.eq_false_iff.mpr c47
        subst c47
        have H1 : ((impl_MulMatrix.f kj14 t104 t101 t121).bind fun bt131 => ((impl_MulMatrix.f kj14 t107 t101 t121).bind fun bt135 => ((impl_MulMatrix.f kj14 t110 t101 t121).bind fun bt139 => (if bt131.2 = 0 then (if bt135.2 = 0 then (if bt139.2 = 0 then (if 0 ≤ (IntKind.u64.wrap (t101)) then (if (bt131.1.length : Int) = (shl .i64 1 (IntKind.u64.wrap (t101))) then (if (bt135.1.length : Int) = (bt131.1.length : Int) then (laws_FnSystem.j2 kj14 t121 bt131.1 bt135.1 bt139.1 ((bt139.1.length : Int) != (bt131.1.length : Int)) t101 t102 t103 t104 t107 t110) else (laws_FnSystem.j2 kj14 t121 bt131.1 bt135.1 bt139.1 true t101 t102 t103 t104 t107 t110)) else (laws_FnSystem.j2 kj14 t121 bt131.1 bt135.1 bt139.1 true t101 t102 t103 t104 t107 t110)) else (none)) else (laws_FnSystem.j2 kj14 t121 bt131.1 bt135.1 bt139.1 true t101 t102 t103 t104 t107 t110)) else (laws_FnSystem.j2 kj14 t121 bt131.1 bt135.1 bt139.1 true t101 t102 t103 t104 t107 t110)) else (laws_FnSystem.j2 kj14 t121 bt131.1 bt135.1 bt139.1 true t101 t102 t103 t104 t107 t110))))) = some r := by rw [if_neg (show ¬ (false = true) by decide)] at H; exact H
        clear H
        have H := H1
        clear H1
        replace H := Option.bind_eq_some_iff.mp H
        obtain ⟨⟨t131, t132⟩, A480, H⟩ := H
        replace H : ((impl_MulMatrix.f kj14 t107 t101 t121).bind fun bt135 => ((impl_MulMatrix.f kj14 t110 t101 t121).bind fun bt139 => (if t132 = 0 then (if bt135.2 = 0 then (if bt139.2 = 0 then (if 0 ≤ (IntKind.u64.wrap (t101)) then (if (t131.length : Int) = (shl .i64 1 (IntKind.u64.wrap (t101))) then (if (bt135.1.length : Int) = (t131.length : Int) then (laws_FnSystem.j2 kj14 t121 t131 bt135.1 bt139.1 ((bt139.1.length : Int) != (t131.length : Int)) t101 t102 t103 t104 t107 t110) else (laws_FnSystem.j2 kj14 t121 t131 bt135.1 bt139.1 true t101 t102 t103 t104 t107 t110)) else (laws_FnSystem.j2 kj14 t121 t131 bt135.1 bt139.1 true t101 t102 t103 t104 t107 t110)) else (none)) else (laws_FnSystem.j2 kj14 t121 t131 bt135.1 bt139.1 true t101 t102 t103 t104 t107 t110)) else (laws_FnSystem.j2 kj14 t121 t131 bt135.1 bt139.1 true t101 t102 t103 t104 t107 t110)) else (laws_FnSystem.j2 kj14 t121 t131 bt135.1 bt139.1 true t101 t102 t103 t104 t107 t110)))) = some r := H
        have A48 := am_ A480
        clear A480
        replace H := Option.bind_eq_some_iff.mp H
        obtain ⟨⟨t135, t136⟩, A490, H⟩ := H
        replace H : ((impl_MulMatrix.f kj14 t110 t101 t121).bind fun bt139 => (if t132 = 0 then (if t136 = 0 then (if bt139.2 = 0 then (if 0 ≤ (IntKind.u64.wrap (t101)) then (if (t131.length : Int) = (shl .i64 1 (IntKind.u64.wrap (t101))) then (if (t135.length : Int) = (t131.length : Int) then (laws_FnSystem.j2 kj14 t121 t131 t135 bt139.1 ((bt139.1.length : Int) != (t131.length : Int)) t101 t102 t103 t104 t107 t110) else (laws_FnSystem.j2 kj14 t121 t131 t135 bt139.1 true t101 t102 t103 t104 t107 t110)) else (laws_FnSystem.j2 kj14 t121 t131 t135 bt139.1 true t101 t102 t103 t104 t107 t110)) else (none)) else (laws_FnSystem.j2 kj14 t121 t131 t135 bt139.1 true t101 t102 t103 t104 t107 t110)) else (laws_FnSystem.j2 kj14 t121 t131 t135 bt139.1 true t101 t102 t103 t104 t107 t110)) else (laws_FnSystem.j2 kj14 t121 t131 t135 bt139.1 true t101 t102 t103 t104 t107 t110))) = some r := H
        have A49 := am_ A490
        clear A490
        replace H := Option.bind_eq_some_iff.mp H
        obtain ⟨⟨t139, t140⟩, A500, H⟩ := H
        replace H : (if t132 = 0 then (if t136 = 0 then (if t140 = 0 then (if 0 ≤ (IntKind.u64.wrap (t101)) then (if (t131.length : Int) = (shl .i64 1 (IntKind.u64.wrap (t101))) then (if (t135.length : Int) = (t131.length : Int) then (laws_FnSystem.j2 kj14 t121 t131 t135 t139 ((t139.length : Int) != (t131.length : Int)) t101 t102 t103 t104 t107 t110) else (laws_FnSystem.j2 kj14 t121 t131 t135 t139 true t101 t102 t103 t104 t107 t110)) else (laws_FnSystem.j2 kj14 t121 t131 t135 t139 true t101 t102 t103 t104 t107 t110)) else (none)) else (laws_FnSystem.j2 kj14 t121 t131 t135 t139 true t101 t102 t103 t104 t107 t110)) else (laws_FnSystem.j2 kj14 t121 t131 t135 t139 true t101 t102 t103 t104 t107 t110)) else (laws_FnSystem.j2 kj14 t121 t131 t135 t139 true t101 t102 t103 t104 t107 t110)) = some r := H
        have A50 := am_ A500
        clear A500
        have HC51 := am_ H
        clear H
        have hcz52_0 : wc.cell? ⟨gb113, 0, none⟩ = some (.int .i64 t101) := (blk_cell BK113.out 0).trans rfl
        have hcz52_1 : wc.cell? ⟨gb113, 1, none⟩ = some (.int .i64 t102) := (blk_cell BK113.out 1).trans rfl
        have hcz52_2 : wc.cell? ⟨gb113, 2, none⟩ = some (.int .i64 t103) := (blk_cell BK113.out 2).trans rfl
        have hcz52_3 : wc.cell? ⟨gb113, 3, none⟩ = some (.slice Ao19 t104.length co19) := (blk_cell BK113.out 3).trans rfl
        have hcz52_4 : wc.cell? ⟨gb113, 4, none⟩ = some (.slice Ao20 t107.length co20) := (blk_cell BK113.out 4).trans rfl
        have hcz52_5 : wc.cell? ⟨gb113, 5, none⟩ = some (.slice Ao21 t110.length co21) := (blk_cell BK113.out 5).trans rfl
        have hfz52_0 := blk_frozen BK113.out 0
        have hfz52_1 := blk_frozen BK113.out 1
        have hfz52_2 := blk_frozen BK113.out 2
        have hfz52_3 := blk_frozen BK113.out 3
        have hfz52_4 := blk_frozen BK113.out 4
        have hfz52_5 := blk_frozen BK113.out 5
        obtain ⟨Ao53, co53, eo53⟩ := Kd.R_slice HO_8.out
        subst eo53
        go_upto_region 13 with (first | (go_at_call 30; (with_reducible refine (impl_MulMatrix.calls kj14 _ _ t104 t101 _ _ t121 t131 t132 _ ?side1 ?side2 ?side3 ?side4 A48.out).mono ?_); (case side1 => exact qc_ (Kd.R_reads' HO_114003.out).2.2); (case side2 => exact (Kd.R_reads' HO_114003.out).2.1); (case side3 => exact qc_ (Kd.R_reads' HO_8.out).2.2); (case side4 => exact (Kd.R_reads' HO_8.out).2.1); rintro e w54 ⟨v133, rfl, ho0, hb⟩; have n0_ := am_ (Kd.R_elder' qz16_ (Kd.R_base ho0) hb); have n1_ := am_ (Kd.R_below qz34_ hb); have n2_ := am_ (Kd.R_below qz35_ hb); have n3_ := am_ (Kd.R_below qz36_ hb); have n4_ := am_ (Kd.R_lower (Kd.R_new' ho0 (Kd.R_lt qz16_)) (below_size qz29_)); have n5_ := am_ (blk_below (g := gb113) (o := .cells #[.int .i64 t101, .int .i64 t102, .int .i64 t103, .slice Ao19 t104.length co19, .slice Ao20 t107.length co20, .slice Ao21 t110.length co21] 29 (0, 0)) qz31_ hb); have n6_ := am_ (below_step qz29_ hb); clear HO_8; clear HO_114003; clear HO_114004; clear HO_114005; clear BK113; clear HB; have HO_8 := n0_; have HO_114003 := n1_; have HO_114004 := n2_; have HO_114005 := n3_; have HO134 := n4_; have BK113 := n5_; have HB := n6_; clear n0_ n1_ n2_ n3_ n4_ n5_ n6_; (try clear hb); (try clear hb2); (try clear hk); (try clear hi); (try clear ho0); have hcz55_0 : w54.cell? ⟨gb113, 0, none⟩ = some (.int .i64 t101) := (blk_cell BK113.out 0).trans rfl; have hcz55_1 : w54.cell? ⟨gb113, 1, none⟩ = some (.int .i64 t102) := (blk_cell BK113.out 1).trans rfl; have hcz55_2 : w54.cell? ⟨gb113, 2, none⟩ = some (.int .i64 t103) := (blk_cell BK113.out 2).trans rfl; have hcz55_3 : w54.cell? ⟨gb113, 3, none⟩ = some (.slice Ao19 t104.length co19) := (blk_cell BK113.out 3).trans rfl; have hcz55_4 : w54.cell? ⟨gb113, 4, none⟩ = some (.slice Ao20 t107.length co20) := (blk_cell BK113.out 4).trans rfl; have hcz55_5 : w54.cell? ⟨gb113, 5, none⟩ = some (.slice Ao21 t110.length co21) := (blk_cell BK113.out 5).trans rfl; have hfz55_0 := blk_frozen BK113.out 0; have hfz55_1 := blk_frozen BK113.out 1; have hfz55_2 := blk_frozen BK113.out 2; have hfz55_3 := blk_frozen BK113.out 3; have hfz55_4 := blk_frozen BK113.out 4; have hfz55_5 := blk_frozen BK113.out 5) | (go_at_call 30; (with_reducible refine (impl_MulMatrix.calls kj14 _ _ t107 t101 _ _ t121 t135 t136 _ ?side1 ?side2 ?side3 ?side4 A49.out).mono ?_); (case side1 => exact qc_ (Kd.R_reads' HO_114004.out).2.2); (case side2 => exact (Kd.R_reads' HO_114004.out).2.1); (case side3 => exact qc_ (Kd.R_reads' HO_8.out).2.2); (case side4 => exact (Kd.R_reads' HO_8.out).2.1); rintro e w56 ⟨v137, rfl, ho0, hb⟩; have n0_ := am_ (Kd.R_elder' qz16_ (Kd.R_base ho0) hb); have n1_ := am_ (Kd.R_below qz34_ hb); have n2_ := am_ (Kd.R_below qz35_ hb); have n3_ := am_ (Kd.R_below qz36_ hb); have n4_ := am_ (Kd.R_elder' qz37_ (Kd.R_base ho0) hb); have n5_ := am_ (Kd.R_lower (Kd.R_new' (Kd.R_new' ho0 (Kd.R_lt qz16_)) (Kd.R_lt qz37_)) (below_size qz29_)); have n6_ := am_ (blk_below (g := gb113) (o := .cells #[.int .i64 t101, .int .i64 t102, .int .i64 t103, .slice Ao19 t104.length co19, .slice Ao20 t107.length co20, .slice Ao21 t110.length co21] 29 (0, 0)) qz31_ hb); have n7_ := am_ (below_step qz29_ hb); clear HO_8; clear HO_114003; clear HO_114004; clear HO_114005; clear HO134; clear BK113; clear HB; have HO_8 := n0_; have HO_114003 := n1_; have HO_114004 := n2_; have HO_114005 := n3_; have HO134 := n4_; have HO138 := n5_; have BK113 := n6_; have HB := n7_; clear n0_ n1_ n2_ n3_ n4_ n5_ n6_ n7_; (try clear hb); (try clear hb2); (try clear hk); (try clear hi); (try clear ho0); have hcz57_0 : w56.cell? ⟨gb113, 0, none⟩ = some (.int .i64 t101) := (blk_cell BK113.out 0).trans rfl; have hcz57_1 : w56.cell? ⟨gb113, 1, none⟩ = some (.int .i64 t102) := (blk_cell BK113.out 1).trans rfl; have hcz57_2 : w56.cell? ⟨gb113, 2, none⟩ = some (.int .i64 t103) := (blk_cell BK113.out 2).trans rfl; have hcz57_3 : w56.cell? ⟨gb113, 3, none⟩ = some (.slice Ao19 t104.length co19) := (blk_cell BK113.out 3).trans rfl; have hcz57_4 : w56.cell? ⟨gb113, 4, none⟩ = some (.slice Ao20 t107.length co20) := (blk_cell BK113.out 4).trans rfl; have hcz57_5 : w56.cell? ⟨gb113, 5, none⟩ = some (.slice Ao21 t110.length co21) := (blk_cell BK113.out 5).trans rfl; have hfz57_0 := blk_frozen BK113.out 0; have hfz57_1 := blk_frozen BK113.out 1; have hfz57_2 := blk_frozen BK113.out 2; have hfz57_3 := blk_frozen BK113.out 3; have hfz57_4 := blk_frozen BK113.out 4; have hfz57_5 := blk_frozen BK113.out 5) | (go_at_call 30; (with_reducible refine (impl_MulMatrix.calls kj14 _ _ t110 t101 _ _ t121 t139 t140 _ ?side1 ?side2 ?side3 ?side4 A50.out).mono ?_); (case side1 => exact qc_ (Kd.R_reads' HO_114005.out).2.2); (case side2 => exact (Kd.R_reads' HO_114005.out).2.1); (case side3 => exact qc_ (Kd.R_reads' HO_8.out).2.2); (case side4 => exact (Kd.R_reads' HO_8.out).2.1); rintro e w58 ⟨v141, rfl, ho0, hb⟩; have n0_ := am_ (Kd.R_elder' qz16_ (Kd.R_base ho0) hb); have n1_ := am_ (Kd.R_below qz34_ hb); have n2_ := am_ (Kd.R_below qz35_ hb); have n3_ := am_ (Kd.R_below qz36_ hb); have n4_ := am_ (Kd.R_elder' qz37_ (Kd.R_base ho0) hb); have n5_ := am_ (Kd.R_elder' qz38_ (Kd.R_base ho0) hb); have n6_ := am_ (Kd.R_lower (Kd.R_new' (Kd.R_new' (Kd.R_new' ho0 (Kd.R_lt qz16_)) (Kd.R_lt qz37_)) (Kd.R_lt qz38_)) (below_size qz29_)); have n7_ := am_ (blk_below (g := gb113) (o := .cells #[.int .i64 t101, .int .i64 t102, .int .i64 t103, .slice Ao19 t104.length co19, .slice Ao20 t107.length co20, .slice Ao21 t110.length co21] 29 (0, 0)) qz31_ hb); have n8_ := am_ (below_step qz29_ hb); clear HO_8; clear HO_114003; clear HO_114004; clear HO_114005; clear HO134; clear HO138; clear BK113; clear HB; have HO_8 := n0_; have HO_114003 := n1_; have HO_114004 := n2_; have HO_114005 := n3_; have HO134 := n4_; have HO138 := n5_; have HO142 := n6_; have BK113 := n7_; have HB := n8_; clear n0_ n1_ n2_ n3_ n4_ n5_ n6_ n7_ n8_; (try clear hb); (try clear hb2); (try clear hk); (try clear hi); (try clear ho0)))
        repeat (go_quiet (first | (go_at_call 30; (with_reducible refine (impl_MulMatrix.calls kj14 _ _ t104 t101 _ _ t121 t131 t132 _ ?side1 ?side2 ?side3 ?side4 A48.out).mono ?_); (case side1 => exact qc_ (Kd.R_reads' HO_114003.out).2.2); (case side2 => exact (Kd.R_reads' HO_114003.out).2.1); (case side3 => exact qc_ (Kd.R_reads' HO_8.out).2.2); (case side4 => exact (Kd.R_reads' HO_8.out).2.1); rintro e w54 ⟨v133, rfl, ho0, hb⟩; have n0_ := am_ (Kd.R_elder' qz16_ (Kd.R_base ho0) hb); have n1_ := am_ (Kd.R_below qz34_ hb); have n2_ := am_ (Kd.R_below qz35_ hb); have n3_ := am_ (Kd.R_below qz36_ hb); have n4_ := am_ (Kd.R_lower (Kd.R_new' ho0 (Kd.R_lt qz16_)) (below_size qz29_)); have n5_ := am_ (blk_below (g := gb113) (o := .cells #[.int .i64 t101, .int .i64 t102, .int .i64 t103, .slice Ao19 t104.length co19, .slice Ao20 t107.length co20, .slice Ao21 t110.length co21] 29 (0, 0)) qz31_ hb); have n6_ := am_ (below_step qz29_ hb); clear HO_8; clear HO_114003; clear HO_114004; clear HO_114005; clear BK113; clear HB; have HO_8 := n0_; have HO_114003 := n1_; have HO_114004 := n2_; have HO_114005 := n3_; have HO134 := n4_; have BK113 := n5_; have HB := n6_; clear n0_ n1_ n2_ n3_ n4_ n5_ n6_; (try clear hb); (try clear hb2); (try clear hk); (try clear hi); (try clear ho0); have hcz55_0 : w54.cell? ⟨gb113, 0, none⟩ = some (.int .i64 t101) := (blk_cell BK113.out 0).trans rfl; have hcz55_1 : w54.cell? ⟨gb113, 1, none⟩ = some (.int .i64 t102) := (blk_cell BK113.out 1).trans rfl; have hcz55_2 : w54.cell? ⟨gb113, 2, none⟩ = some (.int .i64 t103) := (blk_cell BK113.out 2).trans rfl; have hcz55_3 : w54.cell? ⟨gb113, 3, none⟩ = some (.slice Ao19 t104.length co19) := (blk_cell BK113.out 3).trans rfl; have hcz55_4 : w54.cell? ⟨gb113, 4, none⟩ = some (.slice Ao20 t107.length co20) := (blk_cell BK113.out 4).trans rfl; have hcz55_5 : w54.cell? ⟨gb113, 5, none⟩ = some (.slice Ao21 t110.length co21) := (blk_cell BK113.out 5).trans rfl; have hfz55_0 := blk_frozen BK113.out 0; have hfz55_1 := blk_frozen BK113.out 1; have hfz55_2 := blk_frozen BK113.out 2; have hfz55_3 := blk_frozen BK113.out 3; have hfz55_4 := blk_frozen BK113.out 4; have hfz55_5 := blk_frozen BK113.out 5) | (go_at_call 30; (with_reducible refine (impl_MulMatrix.calls kj14 _ _ t107 t101 _ _ t121 t135 t136 _ ?side1 ?side2 ?side3 ?side4 A49.out).mono ?_); (case side1 => exact qc_ (Kd.R_reads' HO_114004.out).2.2); (case side2 => exact (Kd.R_reads' HO_114004.out).2.1); (case side3 => exact qc_ (Kd.R_reads' HO_8.out).2.2); (case side4 => exact (Kd.R_reads' HO_8.out).2.1); rintro e w56 ⟨v137, rfl, ho0, hb⟩; have n0_ := am_ (Kd.R_elder' qz16_ (Kd.R_base ho0) hb); have n1_ := am_ (Kd.R_below qz34_ hb); have n2_ := am_ (Kd.R_below qz35_ hb); have n3_ := am_ (Kd.R_below qz36_ hb); have n4_ := am_ (Kd.R_elder' qz37_ (Kd.R_base ho0) hb); have n5_ := am_ (Kd.R_lower (Kd.R_new' (Kd.R_new' ho0 (Kd.R_lt qz16_)) (Kd.R_lt qz37_)) (below_size qz29_)); have n6_ := am_ (blk_below (g := gb113) (o := .cells #[.int .i64 t101, .int .i64 t102, .int .i64 t103, .slice Ao19 t104.length co19, .slice Ao20 t107.length co20, .slice Ao21 t110.length co21] 29 (0, 0)) qz31_ hb); have n7_ := am_ (below_step qz29_ hb); clear HO_8; clear HO_114003; clear HO_114004; clear HO_114005; clear HO134; clear BK113; clear HB; have HO_8 := n0_; have HO_114003 := n1_; have HO_114004 := n2_; have HO_114005 := n3_; have HO134 := n4_; have HO138 := n5_; have BK113 := n6_; have HB := n7_; clear n0_ n1_ n2_ n3_ n4_ n5_ n6_ n7_; (try clear hb); (try clear hb2); (try clear hk); (try clear hi); (try clear ho0); have hcz57_0 : w56.cell? ⟨gb113, 0, none⟩ = some (.int .i64 t101) := (blk_cell BK113.out 0).trans rfl; have hcz57_1 : w56.cell? ⟨gb113, 1, none⟩ = some (.int .i64 t102) := (blk_cell BK113.out 1).trans rfl; have hcz57_2 : w56.cell? ⟨gb113, 2, none⟩ = some (.int .i64 t103) := (blk_cell BK113.out 2).trans rfl; have hcz57_3 : w56.cell? ⟨gb113, 3, none⟩ = some (.slice Ao19 t104.length co19) := (blk_cell BK113.out 3).trans rfl; have hcz57_4 : w56.cell? ⟨gb113, 4, none⟩ = some (.slice Ao20 t107.length co20) := (blk_cell BK113.out 4).trans rfl; have hcz57_5 : w56.cell? ⟨gb113, 5, none⟩ = some (.slice Ao21 t110.length co21) := (blk_cell BK113.out 5).trans rfl; have hfz57_0 := blk_frozen BK113.out 0; have hfz57_1 := blk_frozen BK113.out 1; have hfz57_2 := blk_frozen BK113.out 2; have hfz57_3 := blk_frozen BK113.out 3; have hfz57_4 := blk_frozen BK113.out 4; have hfz57_5 := blk_frozen BK113.out 5) | (go_at_call 30; (with_reducible refine (impl_MulMatrix.calls kj14 _ _ t110 t101 _ _ t121 t139 t140 _ ?side1 ?side2 ?side3 ?side4 A50.out).mono ?_); (case side1 => exact qc_ (Kd.R_reads' HO_114005.out).2.2); (case side2 => exact (Kd.R_reads' HO_114005.out).2.1); (case side3 => exact qc_ (Kd.R_reads' HO_8.out).2.2); (case side4 => exact (Kd.R_reads' HO_8.out).2.1); rintro e w58 ⟨v141, rfl, ho0, hb⟩; have n0_ := am_ (Kd.R_elder' qz16_ (Kd.R_base ho0) hb); have n1_ := am_ (Kd.R_below qz34_ hb); have n2_ := am_ (Kd.R_below qz35_ hb); have n3_ := am_ (Kd.R_below qz36_ hb); have n4_ := am_ (Kd.R_elder' qz37_ (Kd.R_base ho0) hb); have n5_ := am_ (Kd.R_elder' qz38_ (Kd.R_base ho0) hb); have n6_ := am_ (Kd.R_lower (Kd.R_new' (Kd.R_new' (Kd.R_new' ho0 (Kd.R_lt qz16_)) (Kd.R_lt qz37_)) (Kd.R_lt qz38_)) (below_size qz29_)); have n7_ := am_ (blk_below (g := gb113) (o := .cells #[.int .i64 t101, .int .i64 t102, .int .i64 t103, .slice Ao19 t104.length co19, .slice Ao20 t107.length co20, .slice Ao21 t110.length co21] 29 (0, 0)) qz31_ hb); have n8_ := am_ (below_step qz29_ hb); clear HO_8; clear HO_114003; clear HO_114004; clear HO_114005; clear HO134; clear HO138; clear BK113; clear HB; have HO_8 := n0_; have HO_114003 := n1_; have HO_114004 := n2_; have HO_114005 := n3_; have HO134 := n4_; have HO138 := n5_; have HO142 := n6_; have BK113 := n7_; have HB := n8_; clear n0_ n1_ n2_ n3_ n4_ n5_ n6_ n7_ n8_; (try clear hb); (try clear hb2); (try clear hk); (try clear hi); (try clear ho0))); go_upto_region 13 with (first | (go_at_call 30; (with_reducible refine (impl_MulMatrix.calls kj14 _ _ t104 t101 _ _ t121 t131 t132 _ ?side1 ?side2 ?side3 ?side4 A48.out).mono ?_); (case side1 => exact qc_ (Kd.R_reads' HO_114003.out).2.2); (case side2 => exact (Kd.R_reads' HO_114003.out).2.1); (case side3 => exact qc_ (Kd.R_reads' HO_8.out).2.2); (case side4 => exact (Kd.R_reads' HO_8.out).2.1); rintro e w54 ⟨v133, rfl, ho0, hb⟩; have n0_ := am_ (Kd.R_elder' qz16_ (Kd.R_base ho0) hb); have n1_ := am_ (Kd.R_below qz34_ hb); have n2_ := am_ (Kd.R_below qz35_ hb); have n3_ := am_ (Kd.R_below qz36_ hb); have n4_ := am_ (Kd.R_lower (Kd.R_new' ho0 (Kd.R_lt qz16_)) (below_size qz29_)); have n5_ := am_ (blk_below (g := gb113) (o := .cells #[.int .i64 t101, .int .i64 t102, .int .i64 t103, .slice Ao19 t104.length co19, .slice Ao20 t107.length co20, .slice Ao21 t110.length co21] 29 (0, 0)) qz31_ hb); have n6_ := am_ (below_step qz29_ hb); clear HO_8; clear HO_114003; clear HO_114004; clear HO_114005; clear BK113; clear HB; have HO_8 := n0_; have HO_114003 := n1_; have HO_114004 := n2_; have HO_114005 := n3_; have HO134 := n4_; have BK113 := n5_; have HB := n6_; clear n0_ n1_ n2_ n3_ n4_ n5_ n6_; (try clear hb); (try clear hb2); (try clear hk); (try clear hi); (try clear ho0); have hcz55_0 : w54.cell? ⟨gb113, 0, none⟩ = some (.int .i64 t101) := (blk_cell BK113.out 0).trans rfl; have hcz55_1 : w54.cell? ⟨gb113, 1, none⟩ = some (.int .i64 t102) := (blk_cell BK113.out 1).trans rfl; have hcz55_2 : w54.cell? ⟨gb113, 2, none⟩ = some (.int .i64 t103) := (blk_cell BK113.out 2).trans rfl; have hcz55_3 : w54.cell? ⟨gb113, 3, none⟩ = some (.slice Ao19 t104.length co19) := (blk_cell BK113.out 3).trans rfl; have hcz55_4 : w54.cell? ⟨gb113, 4, none⟩ = some (.slice Ao20 t107.length co20) := (blk_cell BK113.out 4).trans rfl; have hcz55_5 : w54.cell? ⟨gb113, 5, none⟩ = some (.slice Ao21 t110.length co21) := (blk_cell BK113.out 5).trans rfl; have hfz55_0 := blk_frozen BK113.out 0; have hfz55_1 := blk_frozen BK113.out 1; have hfz55_2 := blk_frozen BK113.out 2; have hfz55_3 := blk_frozen BK113.out 3; have hfz55_4 := blk_frozen BK113.out 4; have hfz55_5 := blk_frozen BK113.out 5) | (go_at_call 30; (with_reducible refine (impl_MulMatrix.calls kj14 _ _ t107 t101 _ _ t121 t135 t136 _ ?side1 ?side2 ?side3 ?side4 A49.out).mono ?_); (case side1 => exact qc_ (Kd.R_reads' HO_114004.out).2.2); (case side2 => exact (Kd.R_reads' HO_114004.out).2.1); (case side3 => exact qc_ (Kd.R_reads' HO_8.out).2.2); (case side4 => exact (Kd.R_reads' HO_8.out).2.1); rintro e w56 ⟨v137, rfl, ho0, hb⟩; have n0_ := am_ (Kd.R_elder' qz16_ (Kd.R_base ho0) hb); have n1_ := am_ (Kd.R_below qz34_ hb); have n2_ := am_ (Kd.R_below qz35_ hb); have n3_ := am_ (Kd.R_below qz36_ hb); have n4_ := am_ (Kd.R_elder' qz37_ (Kd.R_base ho0) hb); have n5_ := am_ (Kd.R_lower (Kd.R_new' (Kd.R_new' ho0 (Kd.R_lt qz16_)) (Kd.R_lt qz37_)) (below_size qz29_)); have n6_ := am_ (blk_below (g := gb113) (o := .cells #[.int .i64 t101, .int .i64 t102, .int .i64 t103, .slice Ao19 t104.length co19, .slice Ao20 t107.length co20, .slice Ao21 t110.length co21] 29 (0, 0)) qz31_ hb); have n7_ := am_ (below_step qz29_ hb); clear HO_8; clear HO_114003; clear HO_114004; clear HO_114005; clear HO134; clear BK113; clear HB; have HO_8 := n0_; have HO_114003 := n1_; have HO_114004 := n2_; have HO_114005 := n3_; have HO134 := n4_; have HO138 := n5_; have BK113 := n6_; have HB := n7_; clear n0_ n1_ n2_ n3_ n4_ n5_ n6_ n7_; (try clear hb); (try clear hb2); (try clear hk); (try clear hi); (try clear ho0); have hcz57_0 : w56.cell? ⟨gb113, 0, none⟩ = some (.int .i64 t101) := (blk_cell BK113.out 0).trans rfl; have hcz57_1 : w56.cell? ⟨gb113, 1, none⟩ = some (.int .i64 t102) := (blk_cell BK113.out 1).trans rfl; have hcz57_2 : w56.cell? ⟨gb113, 2, none⟩ = some (.int .i64 t103) := (blk_cell BK113.out 2).trans rfl; have hcz57_3 : w56.cell? ⟨gb113, 3, none⟩ = some (.slice Ao19 t104.length co19) := (blk_cell BK113.out 3).trans rfl; have hcz57_4 : w56.cell? ⟨gb113, 4, none⟩ = some (.slice Ao20 t107.length co20) := (blk_cell BK113.out 4).trans rfl; have hcz57_5 : w56.cell? ⟨gb113, 5, none⟩ = some (.slice Ao21 t110.length co21) := (blk_cell BK113.out 5).trans rfl; have hfz57_0 := blk_frozen BK113.out 0; have hfz57_1 := blk_frozen BK113.out 1; have hfz57_2 := blk_frozen BK113.out 2; have hfz57_3 := blk_frozen BK113.out 3; have hfz57_4 := blk_frozen BK113.out 4; have hfz57_5 := blk_frozen BK113.out 5) | (go_at_call 30; (with_reducible refine (impl_MulMatrix.calls kj14 _ _ t110 t101 _ _ t121 t139 t140 _ ?side1 ?side2 ?side3 ?side4 A50.out).mono ?_); (case side1 => exact qc_ (Kd.R_reads' HO_114005.out).2.2); (case side2 => exact (Kd.R_reads' HO_114005.out).2.1); (case side3 => exact qc_ (Kd.R_reads' HO_8.out).2.2); (case side4 => exact (Kd.R_reads' HO_8.out).2.1); rintro e w58 ⟨v141, rfl, ho0, hb⟩; have n0_ := am_ (Kd.R_elder' qz16_ (Kd.R_base ho0) hb); have n1_ := am_ (Kd.R_below qz34_ hb); have n2_ := am_ (Kd.R_below qz35_ hb); have n3_ := am_ (Kd.R_below qz36_ hb); have n4_ := am_ (Kd.R_elder' qz37_ (Kd.R_base ho0) hb); have n5_ := am_ (Kd.R_elder' qz38_ (Kd.R_base ho0) hb); have n6_ := am_ (Kd.R_lower (Kd.R_new' (Kd.R_new' (Kd.R_new' ho0 (Kd.R_lt qz16_)) (Kd.R_lt qz37_)) (Kd.R_lt qz38_)) (below_size qz29_)); have n7_ := am_ (blk_below (g := gb113) (o := .cells #[.int .i64 t101, .int .i64 t102, .int .i64 t103, .slice Ao19 t104.length co19, .slice Ao20 t107.length co20, .slice Ao21 t110.length co21] 29 (0, 0)) qz31_ hb); have n8_ := am_ (below_step qz29_ hb); clear HO_8; clear HO_114003; clear HO_114004; clear HO_114005; clear HO134; clear HO138; clear BK113; clear HB; have HO_8 := n0_; have HO_114003 := n1_; have HO_114004 := n2_; have HO_114005 := n3_; have HO134 := n4_; have HO138 := n5_; have HO142 := n6_; have BK113 := n7_; have HB := n8_; clear n0_ n1_ n2_ n3_ n4_ n5_ n6_ n7_ n8_; (try clear hb); (try clear hb2); (try clear hk); (try clear hi); (try clear ho0))))
        (try simp only [Act.put, List.setIfInBounds_toArray, List.set_cons_zero, List.set_cons_succ])
        go_cut [152] (fun v152 wc => ∃ (kq : Nat) (x152_50 : Bool), v152 = .bool x152_50 ∧ Aside0 (laws_FnSystem.j2 kq t121 t131 t135 t139 x152_50 t101 t102 t103 t104 t107 t110 = some r) ∧ Aside0 (kq ≤ kj14) ∧ Aside0 (Kd.R (Kd.int .i64) 3 wc w.heap.size (fun k_ => some k_ ≠ (v133 : Value).ownBlock ∧ some k_ ≠ (v137 : Value).ownBlock ∧ some k_ ≠ (v141 : Value).ownBlock) (.slice Ao53 t121.length co53) t121) ∧ Aside0 (Kd.R (Kd.int .i64) 3 wc w.heap.size (fun k_ => some k_ ≠ ((.slice Ao53 t121.length co53) : Value).ownBlock ∧ some k_ ≠ (v137 : Value).ownBlock ∧ some k_ ≠ (v141 : Value).ownBlock) v133 t131) ∧ Aside0 (Kd.R (Kd.int .i64) 3 wc w.heap.size (fun k_ => some k_ ≠ ((.slice Ao53 t121.length co53) : Value).ownBlock ∧ some k_ ≠ (v133 : Value).ownBlock ∧ some k_ ≠ (v141 : Value).ownBlock) v137 t135) ∧ Aside0 (Kd.R (Kd.int .i64) 3 wc w.heap.size (fun k_ => some k_ ≠ ((.slice Ao53 t121.length co53) : Value).ownBlock ∧ some k_ ≠ (v133 : Value).ownBlock ∧ some k_ ≠ (v137 : Value).ownBlock) v141 t139) ∧ Aside0 (Kd.R k53 53 wc w.heap.size (fun k_ => some k_ ≠ ((.slice Ao20 t107.length co20) : Value).ownBlock ∧ some k_ ≠ ((.slice Ao21 t110.length co21) : Value).ownBlock) (.slice Ao19 t104.length co19) t104) ∧ Aside0 (Kd.R k53 53 wc w.heap.size (fun k_ => some k_ ≠ ((.slice Ao19 t104.length co19) : Value).ownBlock ∧ some k_ ≠ ((.slice Ao21 t110.length co21) : Value).ownBlock) (.slice Ao20 t107.length co20) t107) ∧ Aside0 (Kd.R k53 53 wc w.heap.size (fun k_ => some k_ ≠ ((.slice Ao19 t104.length co19) : Value).ownBlock ∧ some k_ ≠ ((.slice Ao20 t107.length co20) : Value).ownBlock) (.slice Ao21 t110.length co21) t110) ∧ Aside0 (wc.heap[gb113]? = some (.cells #[.int .i64 t101, .int .i64 t102, .int .i64 t103, (.slice Ao19 t104.length co19), (.slice Ao20 t107.length co20), (.slice Ao21 t110.length co21)] 29 (0, 0))) ∧ Aside0 (Below w.heap.size w wc))
        case first =>
         have H := HC51.out
         clear HC51
         by_cases c59 : t132 = 0
         ·
          rw [if_pos c59] at H
          have c59b0 : (t132 == 0) = true := beq_iff_eq.mpr c59
          have c59b1 : (t132 != 0) = false := bne_eq_false_iff_eq.mpr c59
          clear c59
          (first | rw [c59b0] | (simp only [i64_w, i32_w]; rw [c59b0]) | skip)
          by_cases c60 : t136 = 0
          ·
           rw [if_pos c60] at H
           have c60b0 : (t136 == 0) = true := beq_iff_eq.mpr c60
           have c60b1 : (t136 != 0) = false := bne_eq_false_iff_eq.mpr c60
           clear c60
           by_cases c61 : t140 = 0
           ·
            rw [if_pos c61] at H
            have c61b0 : (t140 == 0) = true := beq_iff_eq.mpr c61
            have c61b1 : (t140 != 0) = false := bne_eq_false_iff_eq.mpr c61
            clear c61
            obtain ⟨ji62, hji62⟩ : ∃ j_ : Int, (IntKind.u64.wrap (t101)) = j_ := ⟨_, rfl⟩
            replace H : (if 0 ≤ (ji62) then (if (t131.length : Int) = (shl .i64 1 (ji62)) then (if (t135.length : Int) = (t131.length : Int) then (laws_FnSystem.j2 kj14 t121 t131 t135 t139 ((t139.length : Int) != (t131.length : Int)) t101 t102 t103 t104 t107 t110) else (laws_FnSystem.j2 kj14 t121 t131 t135 t139 true t101 t102 t103 t104 t107 t110)) else (laws_FnSystem.j2 kj14 t121 t131 t135 t139 true t101 t102 t103 t104 t107 t110)) else (none)) = some r := by first | (rw [hji62] at H; exact H) | (simp only [hji62] at H ⊢; exact H)
            by_cases c63 : 0 ≤ (ji62)
            ·
             rw [if_pos c63] at H
             have c63b0 := eq_true c63
             have c63b1 : decide (0 ≤ (ji62)) = true := decide_eq_true c63
             clear c63
             obtain ⟨ji64, hji64⟩ : ∃ j_ : Int, (shl .i64 1 (ji62)) = j_ := ⟨_, rfl⟩
             replace H : (if (t131.length : Int) = (ji64) then (if (t135.length : Int) = (t131.length : Int) then (laws_FnSystem.j2 kj14 t121 t131 t135 t139 ((t139.length : Int) != (t131.length : Int)) t101 t102 t103 t104 t107 t110) else (laws_FnSystem.j2 kj14 t121 t131 t135 t139 true t101 t102 t103 t104 t107 t110)) else (laws_FnSystem.j2 kj14 t121 t131 t135 t139 true t101 t102 t103 t104 t107 t110)) = some r := by first | (rw [hji64] at H; exact H) | (simp only [hji64] at H ⊢; exact H)
             have hji64_ : (IntKind.i64.wrap (1 * 2 ^ min (ji62).toNat 64)) = ji64 := hji64
             have hji64z : (ji62) ≤ 64 → (IntKind.i64.wrap (1 * 2 ^ (ji62).toNat)) = ji64 := shl_small hji64
             have hji64u : (IntKind.i64.wrap (2 ^ min (ji62).toNat 64)) = ji64 := by have h_ := hji64_; rw [Int.one_mul] at h_; exact h_
             have hji64v : (ji62) ≤ 64 → (IntKind.i64.wrap (2 ^ (ji62).toNat)) = ji64 := fun hle_ => by have h_ := hji64z hle_; rw [Int.one_mul] at h_; exact h_
             have hji64y : (wrap64 (1 * 2 ^ min (ji62).toNat 64)) = ji64 := (i64_w _).symm.trans hji64_
             have hji64x : (ji62) ≤ 64 → (wrap64 (1 * 2 ^ (ji62).toNat)) = ji64 := fun h_ => (i64_w _).symm.trans (hji64z h_)
             by_cases c65 : (t131.length : Int) = (ji64)
             ·
              rw [if_pos c65] at H
              have c65b0 : ((t131.length : Int) == (ji64)) = true := beq_iff_eq.mpr c65
              have c65b1 : ((t131.length : Int) != (ji64)) = false := bne_eq_false_iff_eq.mpr c65
              clear c65
              by_cases c66 : (t135.length : Int) = (t131.length : Int)
              ·
               rw [if_pos c66] at H
               have c66b0 : ((t135.length : Int) == (t131.length : Int)) = true := beq_iff_eq.mpr c66
               have c66b1 : ((t135.length : Int) != (t131.length : Int)) = false := bne_eq_false_iff_eq.mpr c66
               have c66b2 : (t135.length == t131.length) = true := by first | simpa using c66 | (simp at c66 ⊢; omega)
               clear c66
               have H' := am_ H
               clear H
               obtain ⟨Ao67, co67, eo67⟩ := Kd.R_slice HO134.out
               subst eo67
               have hcz68_0 : w58.cell? ⟨gb113, 0, none⟩ = some (.int .i64 t101) := (blk_cell BK113.out 0).trans rfl
               have hcz68_1 : w58.cell? ⟨gb113, 1, none⟩ = some (.int .i64 t102) := (blk_cell BK113.out 1).trans rfl
               have hcz68_2 : w58.cell? ⟨gb113, 2, none⟩ = some (.int .i64 t103) := (blk_cell BK113.out 2).trans rfl
               have hcz68_3 : w58.cell? ⟨gb113, 3, none⟩ = some (.slice Ao19 t104.length co19) := (blk_cell BK113.out 3).trans rfl
               have hcz68_4 : w58.cell? ⟨gb113, 4, none⟩ = some (.slice Ao20 t107.length co20) := (blk_cell BK113.out 4).trans rfl
               have hcz68_5 : w58.cell? ⟨gb113, 5, none⟩ = some (.slice Ao21 t110.length co21) := (blk_cell BK113.out 5).trans rfl
               have hfz68_0 := blk_frozen BK113.out 0
               have hfz68_1 := blk_frozen BK113.out 1
               have hfz68_2 := blk_frozen BK113.out 2
               have hfz68_3 := blk_frozen BK113.out 3
               have hfz68_4 := blk_frozen BK113.out 4
               have hfz68_5 := blk_frozen BK113.out 5
               obtain ⟨Ao69, co69, eo69⟩ := Kd.R_slice HO138.out
               subst eo69
               obtain ⟨Ao70, co70, eo70⟩ := Kd.R_slice HO142.out
               subst eo70
               go_wp2
               repeat (go_quiet (fail); try go_wp2)
               go_meet
               case rel => exact ⟨_, (((t139.length : Int) != (t131.length : Int))), qz0_, H', ⟨(by have := HJ2.out; have := HJ14.out; first | omega | exact Nat.le_refl _)⟩, ⟨by (with_reducible repeat (first | apply Kd.R_alloc | apply Kd.R_drewN | apply Kd.R_drew)); exact Kd.R_mono HO_8.out (fun _ hk => by first | exact ⟨hk.1.1.2, ⟨hk.1.2, hk.2⟩⟩ | (simp only [hk, ne_eq, not_false_eq_true, and_self, true_and]; done))⟩, ⟨by (with_reducible repeat (first | apply Kd.R_alloc | apply Kd.R_drewN | apply Kd.R_drew)); exact Kd.R_mono HO134.out (fun _ hk => by first | exact ⟨hk.1.1.2, ⟨hk.1.2, hk.2⟩⟩ | (simp only [hk, ne_eq, not_false_eq_true, and_self, true_and]; done))⟩, ⟨by (with_reducible repeat (first | apply Kd.R_alloc | apply Kd.R_drewN | apply Kd.R_drew)); exact Kd.R_mono HO138.out (fun _ hk => by first | exact ⟨hk.1.1.2, ⟨hk.1.2, hk.2⟩⟩ | (simp only [hk, ne_eq, not_false_eq_true, and_self, true_and]; done))⟩, ⟨by (with_reducible repeat (first | apply Kd.R_alloc | apply Kd.R_drewN | apply Kd.R_drew)); exact Kd.R_mono HO142.out (fun _ hk => by first | exact ⟨hk.1.1.2, ⟨hk.1.2, hk.2⟩⟩ | (simp only [hk, ne_eq, not_false_eq_true, and_self, true_and]; done))⟩, ⟨qz34_⟩, ⟨qz35_⟩, ⟨qz36_⟩, ⟨qz31_⟩, ⟨qz29_⟩⟩
              ·
               rw [if_neg c66] at H
               have c66b0 : ((t135.length : Int) == (t131.length : Int)) = false := beq_eq_false_iff_ne.mpr c66
               have c66b1 : ((t135.length : Int) != (t131.length : Int)) = true := bne_iff_ne.mpr c66
               have c66b2 : (t135.length == t131.length) = false := by first | simpa using c66 | (simp at c66 ⊢; omega)
               have H' := am_ H
               clear H
               obtain ⟨Ao71, co71, eo71⟩ := Kd.R_slice HO134.out
               subst eo71
               have hcz72_0 : w58.cell? ⟨gb113, 0, none⟩ = some (.int .i64 t101) := (blk_cell BK113.out 0).trans rfl
               have hcz72_1 : w58.cell? ⟨gb113, 1, none⟩ = some (.int .i64 t102) := (blk_cell BK113.out 1).trans rfl
               have hcz72_2 : w58.cell? ⟨gb113, 2, none⟩ = some (.int .i64 t103) := (blk_cell BK113.out 2).trans rfl
               have hcz72_3 : w58.cell? ⟨gb113, 3, none⟩ = some (.slice Ao19 t104.length co19) := (blk_cell BK113.out 3).trans rfl
               have hcz72_4 : w58.cell? ⟨gb113, 4, none⟩ = some (.slice Ao20 t107.length co20) := (blk_cell BK113.out 4).trans rfl
               have hcz72_5 : w58.cell? ⟨gb113, 5, none⟩ = some (.slice Ao21 t110.length co21) := (blk_cell BK113.out 5).trans rfl
               have hfz72_0 := blk_frozen BK113.out 0
               have hfz72_1 := blk_frozen BK113.out 1
               have hfz72_2 := blk_frozen BK113.out 2
               have hfz72_3 := blk_frozen BK113.out 3
               have hfz72_4 := blk_frozen BK113.out 4
               have hfz72_5 := blk_frozen BK113.out 5
               obtain ⟨Ao73, co73, eo73⟩ := Kd.R_slice HO138.out
               subst eo73
               go_wp2
               repeat (go_quiet (fail); try go_wp2)
               go_meet
               case rel => exact ⟨_, (true), qz0_, H', ⟨(by have := HJ2.out; have := HJ14.out; first | omega | exact Nat.le_refl _)⟩, ⟨by (with_reducible repeat (first | apply Kd.R_alloc | apply Kd.R_drewN | apply Kd.R_drew)); exact Kd.R_mono HO_8.out (fun _ hk => by first | exact ⟨hk.1.1.2, ⟨hk.1.2, hk.2⟩⟩ | (simp only [hk, ne_eq, not_false_eq_true, and_self, true_and]; done))⟩, ⟨by (with_reducible repeat (first | apply Kd.R_alloc | apply Kd.R_drewN | apply Kd.R_drew)); exact Kd.R_mono HO134.out (fun _ hk => by first | exact ⟨hk.1.1.2, ⟨hk.1.2, hk.2⟩⟩ | (simp only [hk, ne_eq, not_false_eq_true, and_self, true_and]; done))⟩, ⟨by (with_reducible repeat (first | apply Kd.R_alloc | apply Kd.R_drewN | apply Kd.R_drew)); exact Kd.R_mono HO138.out (fun _ hk => by first | exact ⟨hk.1.1.2, ⟨hk.1.2, hk.2⟩⟩ | (simp only [hk, ne_eq, not_false_eq_true, and_self, true_and]; done))⟩, ⟨by (with_reducible repeat (first | apply Kd.R_alloc | apply Kd.R_drewN | apply Kd.R_drew)); exact Kd.R_mono HO142.out (fun _ hk => by first | exact ⟨hk.1.1.2, ⟨hk.1.2, hk.2⟩⟩ | (simp only [hk, ne_eq, not_false_eq_true, and_self, true_and]; done))⟩, ⟨qz34_⟩, ⟨qz35_⟩, ⟨qz36_⟩, ⟨qz31_⟩, ⟨qz29_⟩⟩
             ·
              rw [if_neg c65] at H
              have c65b0 : ((t131.length : Int) == (ji64)) = false := beq_eq_false_iff_ne.mpr c65
              have c65b1 : ((t131.length : Int) != (ji64)) = true := bne_iff_ne.mpr c65
              have H' := am_ H
              clear H
              obtain ⟨Ao74, co74, eo74⟩ := Kd.R_slice HO134.out
              subst eo74
              have hcz75_0 : w58.cell? ⟨gb113, 0, none⟩ = some (.int .i64 t101) := (blk_cell BK113.out 0).trans rfl
              have hcz75_1 : w58.cell? ⟨gb113, 1, none⟩ = some (.int .i64 t102) := (blk_cell BK113.out 1).trans rfl
              have hcz75_2 : w58.cell? ⟨gb113, 2, none⟩ = some (.int .i64 t103) := (blk_cell BK113.out 2).trans rfl
              have hcz75_3 : w58.cell? ⟨gb113, 3, none⟩ = some (.slice Ao19 t104.length co19) := (blk_cell BK113.out 3).trans rfl
              have hcz75_4 : w58.cell? ⟨gb113, 4, none⟩ = some (.slice Ao20 t107.length co20) := (blk_cell BK113.out 4).trans rfl
              have hcz75_5 : w58.cell? ⟨gb113, 5, none⟩ = some (.slice Ao21 t110.length co21) := (blk_cell BK113.out 5).trans rfl
              have hfz75_0 := blk_frozen BK113.out 0
              have hfz75_1 := blk_frozen BK113.out 1
              have hfz75_2 := blk_frozen BK113.out 2
              have hfz75_3 := blk_frozen BK113.out 3
              have hfz75_4 := blk_frozen BK113.out 4
              have hfz75_5 := blk_frozen BK113.out 5
              go_wp2
              repeat (go_quiet (fail); try go_wp2)
              go_meet
              case rel => exact ⟨_, (true), qz0_, H', ⟨(by have := HJ2.out; have := HJ14.out; first | omega | exact Nat.le_refl _)⟩, ⟨by (with_reducible repeat (first | apply Kd.R_alloc | apply Kd.R_drewN | apply Kd.R_drew)); exact Kd.R_mono HO_8.out (fun _ hk => by first | exact ⟨hk.1.1.2, ⟨hk.1.2, hk.2⟩⟩ | (simp only [hk, ne_eq, not_false_eq_true, and_self, true_and]; done))⟩, ⟨by (with_reducible repeat (first | apply Kd.R_alloc | apply Kd.R_drewN | apply Kd.R_drew)); exact Kd.R_mono HO134.out (fun _ hk => by first | exact ⟨hk.1.1.2, ⟨hk.1.2, hk.2⟩⟩ | (simp only [hk, ne_eq, not_false_eq_true, and_self, true_and]; done))⟩, ⟨by (with_reducible repeat (first | apply Kd.R_alloc | apply Kd.R_drewN | apply Kd.R_drew)); exact Kd.R_mono HO138.out (fun _ hk => by first | exact ⟨hk.1.1.2, ⟨hk.1.2, hk.2⟩⟩ | (simp only [hk, ne_eq, not_false_eq_true, and_self, true_and]; done))⟩, ⟨by (with_reducible repeat (first | apply Kd.R_alloc | apply Kd.R_drewN | apply Kd.R_drew)); exact Kd.R_mono HO142.out (fun _ hk => by first | exact ⟨hk.1.1.2, ⟨hk.1.2, hk.2⟩⟩ | (simp only [hk, ne_eq, not_false_eq_true, and_self, true_and]; done))⟩, ⟨qz34_⟩, ⟨qz35_⟩, ⟨qz36_⟩, ⟨qz31_⟩, ⟨qz29_⟩⟩
            ·
             rw [if_neg c63] at H
             exact absurd H (by simp)
           ·
            rw [if_neg c61] at H
            have c61b0 : (t140 == 0) = false := beq_eq_false_iff_ne.mpr c61
            have c61b1 : (t140 != 0) = true := bne_iff_ne.mpr c61
            have H' := am_ H
            clear H
            go_wp2
            repeat (go_quiet (fail); try go_wp2)
            go_meet
            case rel => exact ⟨_, (true), qz0_, H', ⟨(by have := HJ2.out; have := HJ14.out; first | omega | exact Nat.le_refl _)⟩, ⟨by (with_reducible repeat (first | apply Kd.R_alloc | apply Kd.R_drewN | apply Kd.R_drew)); exact Kd.R_mono HO_8.out (fun _ hk => by first | exact ⟨hk.1.1.2, ⟨hk.1.2, hk.2⟩⟩ | (simp only [hk, ne_eq, not_false_eq_true, and_self, true_and]; done))⟩, ⟨by (with_reducible repeat (first | apply Kd.R_alloc | apply Kd.R_drewN | apply Kd.R_drew)); exact Kd.R_mono HO134.out (fun _ hk => by first | exact ⟨hk.1.1.2, ⟨hk.1.2, hk.2⟩⟩ | (simp only [hk, ne_eq, not_false_eq_true, and_self, true_and]; done))⟩, ⟨by (with_reducible repeat (first | apply Kd.R_alloc | apply Kd.R_drewN | apply Kd.R_drew)); exact Kd.R_mono HO138.out (fun _ hk => by first | exact ⟨hk.1.1.2, ⟨hk.1.2, hk.2⟩⟩ | (simp only [hk, ne_eq, not_false_eq_true, and_self, true_and]; done))⟩, ⟨by (with_reducible repeat (first | apply Kd.R_alloc | apply Kd.R_drewN | apply Kd.R_drew)); exact Kd.R_mono HO142.out (fun _ hk => by first | exact ⟨hk.1.1.2, ⟨hk.1.2, hk.2⟩⟩ | (simp only [hk, ne_eq, not_false_eq_true, and_self, true_and]; done))⟩, ⟨qz34_⟩, ⟨qz35_⟩, ⟨qz36_⟩, ⟨qz31_⟩, ⟨qz29_⟩⟩
          ·
           rw [if_neg c60] at H
           have c60b0 : (t136 == 0) = false := beq_eq_false_iff_ne.mpr c60
           have c60b1 : (t136 != 0) = true := bne_iff_ne.mpr c60
           have H' := am_ H
           clear H
           go_wp2
           repeat (go_quiet (fail); try go_wp2)
           go_meet
           case rel => exact ⟨_, (true), qz0_, H', ⟨(by have := HJ2.out; have := HJ14.out; first | omega | exact Nat.le_refl _)⟩, ⟨by (with_reducible repeat (first | apply Kd.R_alloc | apply Kd.R_drewN | apply Kd.R_drew)); exact Kd.R_mono HO_8.out (fun _ hk => by first | exact ⟨hk.1.1.2, ⟨hk.1.2, hk.2⟩⟩ | (simp only [hk, ne_eq, not_false_eq_true, and_self, true_and]; done))⟩, ⟨by (with_reducible repeat (first | apply Kd.R_alloc | apply Kd.R_drewN | apply Kd.R_drew)); exact Kd.R_mono HO134.out (fun _ hk => by first | exact ⟨hk.1.1.2, ⟨hk.1.2, hk.2⟩⟩ | (simp only [hk, ne_eq, not_false_eq_true, and_self, true_and]; done))⟩, ⟨by (with_reducible repeat (first | apply Kd.R_alloc | apply Kd.R_drewN | apply Kd.R_drew)); exact Kd.R_mono HO138.out (fun _ hk => by first | exact ⟨hk.1.1.2, ⟨hk.1.2, hk.2⟩⟩ | (simp only [hk, ne_eq, not_false_eq_true, and_self, true_and]; done))⟩, ⟨by (with_reducible repeat (first | apply Kd.R_alloc | apply Kd.R_drewN | apply Kd.R_drew)); exact Kd.R_mono HO142.out (fun _ hk => by first | exact ⟨hk.1.1.2, ⟨hk.1.2, hk.2⟩⟩ | (simp only [hk, ne_eq, not_false_eq_true, and_self, true_and]; done))⟩, ⟨qz34_⟩, ⟨qz35_⟩, ⟨qz36_⟩, ⟨qz31_⟩, ⟨qz29_⟩⟩
         ·
          rw [if_neg c59] at H
          have c59b0 : (t132 == 0) = false := beq_eq_false_iff_ne.mpr c59
          have c59b1 : (t132 != 0) = true := bne_iff_ne.mpr c59
          (first | rw [c59b0] | (simp only [i64_w, i32_w]; rw [c59b0]) | skip)
          have H' := am_ H
          clear H
          go_wp2
          repeat (go_quiet (fail); try go_wp2)
          go_meet
          case rel => exact ⟨_, (true), qz0_, H', ⟨(by have := HJ2.out; have := HJ14.out; first | omega | exact Nat.le_refl _)⟩, ⟨by (with_reducible repeat (first | apply Kd.R_alloc | apply Kd.R_drewN | apply Kd.R_drew)); exact Kd.R_mono HO_8.out (fun _ hk => by first | exact ⟨hk.1.1.2, ⟨hk.1.2, hk.2⟩⟩ | (simp only [hk, ne_eq, not_false_eq_true, and_self, true_and]; done))⟩, ⟨by (with_reducible repeat (first | apply Kd.R_alloc | apply Kd.R_drewN | apply Kd.R_drew)); exact Kd.R_mono HO134.out (fun _ hk => by first | exact ⟨hk.1.1.2, ⟨hk.1.2, hk.2⟩⟩ | (simp only [hk, ne_eq, not_false_eq_true, and_self, true_and]; done))⟩, ⟨by (with_reducible repeat (first | apply Kd.R_alloc | apply Kd.R_drewN | apply Kd.R_drew)); exact Kd.R_mono HO138.out (fun _ hk => by first | exact ⟨hk.1.1.2, ⟨hk.1.2, hk.2⟩⟩ | (simp only [hk, ne_eq, not_false_eq_true, and_self, true_and]; done))⟩, ⟨by (with_reducible repeat (first | apply Kd.R_alloc | apply Kd.R_drewN | apply Kd.R_drew)); exact Kd.R_mono HO142.out (fun _ hk => by first | exact ⟨hk.1.1.2, ⟨hk.1.2, hk.2⟩⟩ | (simp only [hk, ne_eq, not_false_eq_true, and_self, true_and]; done))⟩, ⟨qz34_⟩, ⟨qz35_⟩, ⟨qz36_⟩, ⟨qz31_⟩, ⟨qz29_⟩⟩
        case rest =>
         as_aux_lemma =>
         clear HC51
         (try clear c1); (try clear p1); (try clear q1); (try clear hx1); (try clear qi1); (try clear p2); (try clear c3); (try clear c4); (try clear c4b0); (try clear c4b1); (try clear c5); (try clear c6); (try clear p6); (try clear c7); (try clear c9); (try clear c9b0); (try clear c9b1); (try clear p13); (try clear q13); (try clear hx13); (try clear qi13); (try clear c31); (try clear c31b0)
         (try clear c31b1); (try clear c33); (try clear c35); (try clear c35b0); (try clear c35b1); (try clear c37); (try clear c37b0); (try clear c37b1); (try clear c38); (try clear c38b0); (try clear c38b1); (try clear c47); (try clear c59); (try clear c59b0); (try clear c59b1); (try clear c60); (try clear c60b0); (try clear c60b1); (try clear c61); (try clear c61b0); (try clear c61b1); (try clear c63)
         (try clear c63b0); (try clear c63b1); (try clear p64); (try clear c65); (try clear c65b0); (try clear c65b1); (try clear c66); (try clear c66b0); (try clear c66b1); (try clear c66b2); (try clear hcz18_0); (try clear hcz18_1); (try clear hcz18_2); (try clear hcz18_3); (try clear hcz18_4); (try clear hcz18_5); (try clear hcz23_0); (try clear hcz23_1); (try clear hcz23_2); (try clear hcz23_3)
         (try clear hcz23_4); (try clear hcz23_5); (try clear hcz25_0); (try clear hcz25_1); (try clear hcz25_2); (try clear hcz25_3); (try clear hcz25_4); (try clear hcz25_5); (try clear hcz29_0); (try clear hcz29_1); (try clear hcz29_2); (try clear hcz29_3); (try clear hcz29_4); (try clear hcz29_5); (try clear hcz41_0); (try clear hcz41_1); (try clear hcz41_2); (try clear hcz41_3); (try clear hcz41_4)
         (try clear hcz41_5); (try clear hcz44_0); (try clear hcz44_1); (try clear hcz44_2); (try clear hcz44_3); (try clear hcz44_4); (try clear hcz44_5); (try clear hcz52_0); (try clear hcz52_1); (try clear hcz52_2); (try clear hcz52_3); (try clear hcz52_4); (try clear hcz52_5); (try clear hcz55_0); (try clear hcz55_1); (try clear hcz55_2); (try clear hcz55_3); (try clear hcz55_4); (try clear hcz55_5)
         (try clear hcz57_0); (try clear hcz57_1); (try clear hcz57_2); (try clear hcz57_3); (try clear hcz57_4); (try clear hcz57_5); (try clear hcz68_0); (try clear hcz68_1); (try clear hcz68_2); (try clear hcz68_3); (try clear hcz68_4); (try clear hcz68_5); (try clear hcz72_0); (try clear hcz72_1); (try clear hcz72_2); (try clear hcz72_3); (try clear hcz72_4); (try clear hcz72_5); (try clear hcz75_0)
         (try clear hcz75_1); (try clear hcz75_2); (try clear hcz75_3); (try clear hcz75_4); (try clear hcz75_5); (try clear hfz18_0); (try clear hfz18_1); (try clear hfz18_2); (try clear hfz18_3); (try clear hfz18_4); (try clear hfz18_5); (try clear hfz23_0); (try clear hfz23_1); (try clear hfz23_2); (try clear hfz23_3); (try clear hfz23_4); (try clear hfz23_5); (try clear hfz25_0); (try clear hfz25_1)
         (try clear hfz25_2); (try clear hfz25_3); (try clear hfz25_4); (try clear hfz25_5); (try clear hfz29_0); (try clear hfz29_1); (try clear hfz29_2); (try clear hfz29_3); (try clear hfz29_4); (try clear hfz29_5); (try clear hfz41_0); (try clear hfz41_1); (try clear hfz41_2); (try clear hfz41_3); (try clear hfz41_4); (try clear hfz41_5); (try clear hfz44_0); (try clear hfz44_1); (try clear hfz44_2)
         (try clear hfz44_3); (try clear hfz44_4); (try clear hfz44_5); (try clear hfz52_0); (try clear hfz52_1); (try clear hfz52_2); (try clear hfz52_3); (try clear hfz52_4); (try clear hfz52_5); (try clear hfz55_0); (try clear hfz55_1); (try clear hfz55_2); (try clear hfz55_3); (try clear hfz55_4); (try clear hfz55_5); (try clear hfz57_0); (try clear hfz57_1); (try clear hfz57_2); (try clear hfz57_3)
         (try clear hfz57_4); (try clear hfz57_5); (try clear hfz68_0); (try clear hfz68_1); (try clear hfz68_2); (try clear hfz68_3); (try clear hfz68_4); (try clear hfz68_5); (try clear hfz72_0); (try clear hfz72_1); (try clear hfz72_2); (try clear hfz72_3); (try clear hfz72_4); (try clear hfz72_5); (try clear hfz75_0); (try clear hfz75_1); (try clear hfz75_2); (try clear hfz75_3); (try clear hfz75_4)
         (try clear hfz75_5); (try clear hx130_0); (try clear p1); (try clear p13); (try clear p130); (try clear p2); (try clear p6); (try clear q1); (try clear q13); (try clear q130)
         obtain ⟨kq, x152_50, rfl, HA, HJ50, HO_8, HO_12, HO_14, HO_16, HO_114003, HO_114004, HO_114005, BK113, HB⟩ := hcut
         cases kq with
         | zero => exact absurd HA.out (by simp [laws_FnSystem.j2])
         | succ kj50 =>
          have H := HA.out
          clear HA
          simp only [laws_FnSystem.j2] at H
          by_cases c76 : x152_50 = true
          ·
           subst c76
           have H1 : (some false) = some r := by rw [if_pos rfl] at H; exact H
           clear H
           have H := H1
           clear H1
           exact absurd ((Option.some.inj H).trans hr_) (by decide)
          ·
           replace c76 := Bool.eq_false_iff.mpr c76
           subst c76
           have H1 : (laws_FnSystem.l0 kj50 t121 t131 t135 t139 (-1) (wrap64 ((t131.length : Int) - 1)) t101 t102 t103 t104 t107 t110) = some r := by rw [if_neg (show ¬ (false = true) by decide)] at H; exact H
           clear H
           have H := H1
           clear H1
           have H' := am_ H
           clear H
           obtain ⟨Ao77, co77, eo77⟩ := Kd.R_slice HO_12.out
           subst eo77
           go_wp2
           repeat (go_quiet (fail); try go_wp2)
           go_loopg [18, 19] kj50 (fun kq v18 v19 w' => ∃ (x18_4 : Int) (x19_4 : Int), v18 = .int .i64 x18_4 ∧ v19 = .int .i64 x19_4 ∧ Aside0 (laws_FnSystem.l0 kq t121 t131 t135 t139 x18_4 x19_4 t101 t102 t103 t104 t107 t110 = some r) ∧ Aside0 (kq ≤ kj50) ∧ Aside0 (Kd.R (Kd.int .i64) 3 w' w.heap.size (fun k_ => some k_ ≠ ((.slice Ao77 t131.length co77) : Value).ownBlock ∧ some k_ ≠ (v137 : Value).ownBlock ∧ some k_ ≠ (v141 : Value).ownBlock) (.slice Ao53 t121.length co53) t121) ∧ Aside0 (Kd.R (Kd.int .i64) 3 w' w.heap.size (fun k_ => some k_ ≠ ((.slice Ao53 t121.length co53) : Value).ownBlock ∧ some k_ ≠ (v137 : Value).ownBlock ∧ some k_ ≠ (v141 : Value).ownBlock) (.slice Ao77 t131.length co77) t131) ∧ Aside0 (Kd.R (Kd.int .i64) 3 w' w.heap.size (fun k_ => some k_ ≠ ((.slice Ao53 t121.length co53) : Value).ownBlock ∧ some k_ ≠ ((.slice Ao77 t131.length co77) : Value).ownBlock ∧ some k_ ≠ (v141 : Value).ownBlock) v137 t135) ∧ Aside0 (Kd.R (Kd.int .i64) 3 w' w.heap.size (fun k_ => some k_ ≠ ((.slice Ao53 t121.length co53) : Value).ownBlock ∧ some k_ ≠ ((.slice Ao77 t131.length co77) : Value).ownBlock ∧ some k_ ≠ (v137 : Value).ownBlock) v141 t139) ∧ Aside0 (Kd.R k53 53 w' w.heap.size (fun k_ => some k_ ≠ ((.slice Ao20 t107.length co20) : Value).ownBlock ∧ some k_ ≠ ((.slice Ao21 t110.length co21) : Value).ownBlock) (.slice Ao19 t104.length co19) t104) ∧ Aside0 (Kd.R k53 53 w' w.heap.size (fun k_ => some k_ ≠ ((.slice Ao19 t104.length co19) : Value).ownBlock ∧ some k_ ≠ ((.slice Ao21 t110.length co21) : Value).ownBlock) (.slice Ao20 t107.length co20) t107) ∧ Aside0 (Kd.R k53 53 w' w.heap.size (fun k_ => some k_ ≠ ((.slice Ao19 t104.length co19) : Value).ownBlock ∧ some k_ ≠ ((.slice Ao20 t107.length co20) : Value).ownBlock) (.slice Ao21 t110.length co21) t110) ∧ Aside0 (w'.heap[gb113]? = some (.cells #[.int .i64 t101, .int .i64 t102, .int .i64 t103, (.slice Ao19 t104.length co19), (.slice Ao20 t107.length co20), (.slice Ao21 t110.length co21)] 29 (0, 0))) ∧ Aside0 (Below w.heap.size w w'))
           case atStart => exact ⟨((-1)), (wrap64 ((t131.length : Int) - 1)), qz0_, qz0_, H', ⟨Nat.le_refl _⟩, ⟨qz16_⟩, ⟨qz39_⟩, ⟨qz40_⟩, ⟨qz41_⟩, ⟨qz34_⟩, ⟨qz35_⟩, ⟨qz36_⟩, ⟨qz31_⟩, ⟨qz29_⟩⟩
           case round =>
            as_aux_lemma =>
            clear H'
            (try clear c1); (try clear p1); (try clear q1); (try clear hx1); (try clear qi1); (try clear p2); (try clear c3); (try clear c4); (try clear c4b0); (try clear c4b1); (try clear c5); (try clear c6); (try clear p6); (try clear c7); (try clear c9); (try clear c9b0); (try clear c9b1); (try clear p13); (try clear q13); (try clear hx13); (try clear qi13); (try clear c31); (try clear c31b0)
            (try clear c31b1); (try clear c33); (try clear c35); (try clear c35b0); (try clear c35b1); (try clear c37); (try clear c37b0); (try clear c37b1); (try clear c38); (try clear c38b0); (try clear c38b1); (try clear c47); (try clear c59); (try clear c59b0); (try clear c59b1); (try clear c60); (try clear c60b0); (try clear c60b1); (try clear c61); (try clear c61b0); (try clear c61b1)
            (try clear c63); (try clear c63b0); (try clear c63b1); (try clear p64); (try clear c65); (try clear c65b0); (try clear c65b1); (try clear c66); (try clear c66b0); (try clear c66b1); (try clear c66b2); (try clear c76); (try clear hcz18_0); (try clear hcz18_1); (try clear hcz18_2); (try clear hcz18_3); (try clear hcz18_4); (try clear hcz18_5); (try clear hcz23_0); (try clear hcz23_1)
            (try clear hcz23_2); (try clear hcz23_3); (try clear hcz23_4); (try clear hcz23_5); (try clear hcz25_0); (try clear hcz25_1); (try clear hcz25_2); (try clear hcz25_3); (try clear hcz25_4); (try clear hcz25_5); (try clear hcz29_0); (try clear hcz29_1); (try clear hcz29_2); (try clear hcz29_3); (try clear hcz29_4); (try clear hcz29_5); (try clear hcz41_0); (try clear hcz41_1)
            (try clear hcz41_2); (try clear hcz41_3); (try clear hcz41_4); (try clear hcz41_5); (try clear hcz44_0); (try clear hcz44_1); (try clear hcz44_2); (try clear hcz44_3); (try clear hcz44_4); (try clear hcz44_5); (try clear hcz52_0); (try clear hcz52_1); (try clear hcz52_2); (try clear hcz52_3); (try clear hcz52_4); (try clear hcz52_5); (try clear hcz55_0); (try clear hcz55_1)
            (try clear hcz55_2); (try clear hcz55_3); (try clear hcz55_4); (try clear hcz55_5); (try clear hcz57_0); (try clear hcz57_1); (try clear hcz57_2); (try clear hcz57_3); (try clear hcz57_4); (try clear hcz57_5); (try clear hcz68_0); (try clear hcz68_1); (try clear hcz68_2); (try clear hcz68_3); (try clear hcz68_4); (try clear hcz68_5); (try clear hcz72_0); (try clear hcz72_1)
            (try clear hcz72_2); (try clear hcz72_3); (try clear hcz72_4); (try clear hcz72_5); (try clear hcz75_0); (try clear hcz75_1); (try clear hcz75_2); (try clear hcz75_3); (try clear hcz75_4); (try clear hcz75_5); (try clear hfz18_0); (try clear hfz18_1); (try clear hfz18_2); (try clear hfz18_3); (try clear hfz18_4); (try clear hfz18_5); (try clear hfz23_0); (try clear hfz23_1)
            (try clear hfz23_2); (try clear hfz23_3); (try clear hfz23_4); (try clear hfz23_5); (try clear hfz25_0); (try clear hfz25_1); (try clear hfz25_2); (try clear hfz25_3); (try clear hfz25_4); (try clear hfz25_5); (try clear hfz29_0); (try clear hfz29_1); (try clear hfz29_2); (try clear hfz29_3); (try clear hfz29_4); (try clear hfz29_5); (try clear hfz41_0); (try clear hfz41_1)
            (try clear hfz41_2); (try clear hfz41_3); (try clear hfz41_4); (try clear hfz41_5); (try clear hfz44_0); (try clear hfz44_1); (try clear hfz44_2); (try clear hfz44_3); (try clear hfz44_4); (try clear hfz44_5); (try clear hfz52_0); (try clear hfz52_1); (try clear hfz52_2); (try clear hfz52_3); (try clear hfz52_4); (try clear hfz52_5); (try clear hfz55_0); (try clear hfz55_1)
            (try clear hfz55_2); (try clear hfz55_3); (try clear hfz55_4); (try clear hfz55_5); (try clear hfz57_0); (try clear hfz57_1); (try clear hfz57_2); (try clear hfz57_3); (try clear hfz57_4); (try clear hfz57_5); (try clear hfz68_0); (try clear hfz68_1); (try clear hfz68_2); (try clear hfz68_3); (try clear hfz68_4); (try clear hfz68_5); (try clear hfz72_0); (try clear hfz72_1)
            (try clear hfz72_2); (try clear hfz72_3); (try clear hfz72_4); (try clear hfz72_5); (try clear hfz75_0); (try clear hfz75_1); (try clear hfz75_2); (try clear hfz75_3); (try clear hfz75_4); (try clear hfz75_5); (try clear hx130_0); (try clear p1); (try clear p13); (try clear p130); (try clear p2); (try clear p6); (try clear p64); (try clear q1); (try clear q13); (try clear q130)
            obtain ⟨x18_4, x19_4, rfl, rfl, HA, HK4, HO_8, HO_12, HO_14, HO_16, HO_114003, HO_114004, HO_114005, BK113, HB⟩ := hrel
            cases gk with
            | zero => exact absurd HA.out (by simp [laws_FnSystem.l0])
            | succ k4 =>
             have H := HA.out
             clear HA
             simp only [laws_FnSystem.l0] at H
             by_cases c78 : x19_4 ≥ 0
             ·
              rw [if_pos c78] at H
              have c78b0 : decide (0 ≤ x19_4) = true := decide_eq_true c78
              clear c78
              have H' := am_ H
              clear H
              go_wp2
              repeat (go_quiet (fail); try go_wp2)
              go_loopg [20, 21] k4 (fun kq v20 v21 w' => ∃ (x20_5 : Int) (x21_5 : Int), v20 = .int .i64 x20_5 ∧ v21 = .int .i64 x21_5 ∧ Aside0 (laws_FnSystem.l1 kq t121 t131 t135 t139 x18_4 x19_4 x20_5 x21_5 t101 t102 t103 t104 t107 t110 = some r) ∧ Aside0 (kq ≤ k4) ∧ Aside0 (Kd.R (Kd.int .i64) 3 w' w.heap.size (fun k_ => some k_ ≠ ((.slice Ao77 t131.length co77) : Value).ownBlock ∧ some k_ ≠ (v137 : Value).ownBlock ∧ some k_ ≠ (v141 : Value).ownBlock) (.slice Ao53 t121.length co53) t121) ∧ Aside0 (Kd.R (Kd.int .i64) 3 w' w.heap.size (fun k_ => some k_ ≠ ((.slice Ao53 t121.length co53) : Value).ownBlock ∧ some k_ ≠ (v137 : Value).ownBlock ∧ some k_ ≠ (v141 : Value).ownBlock) (.slice Ao77 t131.length co77) t131) ∧ Aside0 (Kd.R (Kd.int .i64) 3 w' w.heap.size (fun k_ => some k_ ≠ ((.slice Ao53 t121.length co53) : Value).ownBlock ∧ some k_ ≠ ((.slice Ao77 t131.length co77) : Value).ownBlock ∧ some k_ ≠ (v141 : Value).ownBlock) v137 t135) ∧ Aside0 (Kd.R (Kd.int .i64) 3 w' w.heap.size (fun k_ => some k_ ≠ ((.slice Ao53 t121.length co53) : Value).ownBlock ∧ some k_ ≠ ((.slice Ao77 t131.length co77) : Value).ownBlock ∧ some k_ ≠ (v137 : Value).ownBlock) v141 t139) ∧ Aside0 (Kd.R k53 53 w' w.heap.size (fun k_ => some k_ ≠ ((.slice Ao20 t107.length co20) : Value).ownBlock ∧ some k_ ≠ ((.slice Ao21 t110.length co21) : Value).ownBlock) (.slice Ao19 t104.length co19) t104) ∧ Aside0 (Kd.R k53 53 w' w.heap.size (fun k_ => some k_ ≠ ((.slice Ao19 t104.length co19) : Value).ownBlock ∧ some k_ ≠ ((.slice Ao21 t110.length co21) : Value).ownBlock) (.slice Ao20 t107.length co20) t107) ∧ Aside0 (Kd.R k53 53 w' w.heap.size (fun k_ => some k_ ≠ ((.slice Ao19 t104.length co19) : Value).ownBlock ∧ some k_ ≠ ((.slice Ao20 t107.length co20) : Value).ownBlock) (.slice Ao21 t110.length co21) t110) ∧ Aside0 (w'.heap[gb113]? = some (.cells #[.int .i64 t101, .int .i64 t102, .int .i64 t103, (.slice Ao19 t104.length co19), (.slice Ao20 t107.length co20), (.slice Ao21 t110.length co21)] 29 (0, 0))) ∧ Aside0 (Below w.heap.size w w'))
              case atStart => exact ⟨(0), (0), qz0_, qz0_, H', ⟨Nat.le_refl _⟩, ⟨qz16_⟩, ⟨qz39_⟩, ⟨qz40_⟩, ⟨qz41_⟩, ⟨qz34_⟩, ⟨qz35_⟩, ⟨qz36_⟩, ⟨qz31_⟩, ⟨qz29_⟩⟩
              case round =>
               as_aux_lemma =>
               clear H'
               (try clear c1); (try clear p1); (try clear q1); (try clear hx1); (try clear qi1); (try clear p2); (try clear c3); (try clear c4); (try clear c4b0); (try clear c4b1); (try clear c5); (try clear c6); (try clear p6); (try clear c7); (try clear c9); (try clear c9b0); (try clear c9b1); (try clear p13); (try clear q13); (try clear hx13); (try clear qi13); (try clear c31); (try clear c31b0)
               (try clear c31b1); (try clear c33); (try clear c35); (try clear c35b0); (try clear c35b1); (try clear c37); (try clear c37b0); (try clear c37b1); (try clear c38); (try clear c38b0); (try clear c38b1); (try clear c47); (try clear c59); (try clear c59b0); (try clear c59b1); (try clear c60); (try clear c60b0); (try clear c60b1); (try clear c61); (try clear c61b0); (try clear c61b1)
               (try clear c63); (try clear c63b0); (try clear c63b1); (try clear p64); (try clear c65); (try clear c65b0); (try clear c65b1); (try clear c66); (try clear c66b0); (try clear c66b1); (try clear c66b2); (try clear c76); (try clear c78); (try clear c78b0); (try clear hcz18_0); (try clear hcz18_1); (try clear hcz18_2); (try clear hcz18_3); (try clear hcz18_4); (try clear hcz18_5)
               (try clear hcz23_0); (try clear hcz23_1); (try clear hcz23_2); (try clear hcz23_3); (try clear hcz23_4); (try clear hcz23_5); (try clear hcz25_0); (try clear hcz25_1); (try clear hcz25_2); (try clear hcz25_3); (try clear hcz25_4); (try clear hcz25_5); (try clear hcz29_0); (try clear hcz29_1); (try clear hcz29_2); (try clear hcz29_3); (try clear hcz29_4); (try clear hcz29_5)
               (try clear hcz41_0); (try clear hcz41_1); (try clear hcz41_2); (try clear hcz41_3); (try clear hcz41_4); (try clear hcz41_5); (try clear hcz44_0); (try clear hcz44_1); (try clear hcz44_2); (try clear hcz44_3); (try clear hcz44_4); (try clear hcz44_5); (try clear hcz52_0); (try clear hcz52_1); (try clear hcz52_2); (try clear hcz52_3); (try clear hcz52_4); (try clear hcz52_5)
               (try clear hcz55_0); (try clear hcz55_1); (try clear hcz55_2); (try clear hcz55_3); (try clear hcz55_4); (try clear hcz55_5); (try clear hcz57_0); (try clear hcz57_1); (try clear hcz57_2); (try clear hcz57_3); (try clear hcz57_4); (try clear hcz57_5); (try clear hcz68_0); (try clear hcz68_1); (try clear hcz68_2); (try clear hcz68_3); (try clear hcz68_4); (try clear hcz68_5)
               (try clear hcz72_0); (try clear hcz72_1); (try clear hcz72_2); (try clear hcz72_3); (try clear hcz72_4); (try clear hcz72_5); (try clear hcz75_0); (try clear hcz75_1); (try clear hcz75_2); (try clear hcz75_3); (try clear hcz75_4); (try clear hcz75_5); (try clear hfz18_0); (try clear hfz18_1); (try clear hfz18_2); (try clear hfz18_3); (try clear hfz18_4); (try clear hfz18_5)
               (try clear hfz23_0); (try clear hfz23_1); (try clear hfz23_2); (try clear hfz23_3); (try clear hfz23_4); (try clear hfz23_5); (try clear hfz25_0); (try clear hfz25_1); (try clear hfz25_2); (try clear hfz25_3); (try clear hfz25_4); (try clear hfz25_5); (try clear hfz29_0); (try clear hfz29_1); (try clear hfz29_2); (try clear hfz29_3); (try clear hfz29_4); (try clear hfz29_5)
               (try clear hfz41_0); (try clear hfz41_1); (try clear hfz41_2); (try clear hfz41_3); (try clear hfz41_4); (try clear hfz41_5); (try clear hfz44_0); (try clear hfz44_1); (try clear hfz44_2); (try clear hfz44_3); (try clear hfz44_4); (try clear hfz44_5); (try clear hfz52_0); (try clear hfz52_1); (try clear hfz52_2); (try clear hfz52_3); (try clear hfz52_4); (try clear hfz52_5)
               (try clear hfz55_0); (try clear hfz55_1); (try clear hfz55_2); (try clear hfz55_3); (try clear hfz55_4); (try clear hfz55_5); (try clear hfz57_0); (try clear hfz57_1); (try clear hfz57_2); (try clear hfz57_3); (try clear hfz57_4); (try clear hfz57_5); (try clear hfz68_0); (try clear hfz68_1); (try clear hfz68_2); (try clear hfz68_3); (try clear hfz68_4); (try clear hfz68_5)
               (try clear hfz72_0); (try clear hfz72_1); (try clear hfz72_2); (try clear hfz72_3); (try clear hfz72_4); (try clear hfz72_5); (try clear hfz75_0); (try clear hfz75_1); (try clear hfz75_2); (try clear hfz75_3); (try clear hfz75_4); (try clear hfz75_5); (try clear hx130_0); (try clear p1); (try clear p13); (try clear p130); (try clear p2); (try clear p6); (try clear p64)
               (try clear q1); (try clear q13); (try clear q130)
               obtain ⟨x20_5, x21_5, rfl, rfl, HA, HK5, HO_8, HO_12, HO_14, HO_16, HO_114003, HO_114004, HO_114005, BK113, HB⟩ := hrel
               cases gk with
               | zero => exact absurd HA.out (by simp [laws_FnSystem.l1])
               | succ k5 =>
                have H := HA.out
                clear HA
                simp only [laws_FnSystem.l1] at H
                by_cases c79 : x21_5 < (t104.length : Int)
                ·
                 rw [if_pos c79] at H
                 have c79b0 : decide (x21_5 < (t104.length : Int)) = true := decide_eq_true c79
                 clear c79
                 by_cases c80 : 0 ≤ x21_5
                 ·
                  rw [if_pos c80] at H
                  have c80b0 : decide (0 ≤ x21_5) = true := decide_eq_true c80
                  clear c80
                  by_cases c81 : ((rd_T53 t104 x21_5).f0) = x19_4
                  ·
                   rw [if_pos c81] at H
                   have c81b0 : (((rd_T53 t104 x21_5).f0) == x19_4) = true := beq_iff_eq.mpr c81
                   have c81b1 : (((rd_T53 t104 x21_5).f0) != x19_4) = false := bne_eq_false_iff_eq.mpr c81
                   clear c81
                   by_cases c82 : 0 ≤ ((rd_T53 t104 x21_5).f1)
                   ·
                    rw [if_pos c82] at H
                    have c82b0 : decide (0 ≤ ((rd_T53 t104 x21_5).f1)) = true := decide_eq_true c82
                    clear c82
                    by_cases c83 : ((rd_T53 t104 x21_5).f1) < (t121.length : Int)
                    ·
                     rw [if_pos c83] at H
                     have c83b0 : decide (((rd_T53 t104 x21_5).f1) < (t121.length : Int)) = true := decide_eq_true c83
                     clear c83
                     replace H := Option.bind_eq_some_iff.mp H
                     obtain ⟨⟨t154, t155⟩, A840, H⟩ := H
                     replace H : ((impl_Add.f x20_5 t154).bind fun bt156 => (if t155 = 0 then (if bt156.2 = 0 then (laws_FnSystem.l1 k5 t121 t131 t135 t139 x18_4 x19_4 bt156.1 (wrap64 (x21_5 + 1)) t101 t102 t103 t104 t107 t110) else (some false)) else (some false))) = some r := H
                     have A84 := am_ A840
                     clear A840
                     replace H := Option.bind_eq_some_iff.mp H
                     obtain ⟨⟨t156, t157⟩, A850, H⟩ := H
                     replace H : (if t155 = 0 then (if t157 = 0 then (laws_FnSystem.l1 k5 t121 t131 t135 t139 x18_4 x19_4 t156 (wrap64 (x21_5 + 1)) t101 t102 t103 t104 t107 t110) else (some false)) else (some false)) = some r := H
                     have A85 := am_ A850
                     clear A850
                     by_cases c86 : t155 = 0
                     ·
                      rw [if_pos c86] at H
                      have c86b0 : (t155 == 0) = true := beq_iff_eq.mpr c86
                      have c86b1 : (t155 != 0) = false := bne_eq_false_iff_eq.mpr c86
                      clear c86
                      by_cases c87 : t157 = 0
                      ·
                       rw [if_pos c87] at H
                       have c87b0 : (t157 == 0) = true := beq_iff_eq.mpr c87
                       have c87b1 : (t157 != 0) = false := bne_eq_false_iff_eq.mpr c87
                       clear c87
                       have H' := am_ H
                       clear H
                       have hcz88_0 : wr.cell? ⟨gb113, 0, none⟩ = some (.int .i64 t101) := (blk_cell BK113.out 0).trans rfl
                       have hcz88_1 : wr.cell? ⟨gb113, 1, none⟩ = some (.int .i64 t102) := (blk_cell BK113.out 1).trans rfl
                       have hcz88_2 : wr.cell? ⟨gb113, 2, none⟩ = some (.int .i64 t103) := (blk_cell BK113.out 2).trans rfl
                       have hcz88_3 : wr.cell? ⟨gb113, 3, none⟩ = some (.slice Ao19 t104.length co19) := (blk_cell BK113.out 3).trans rfl
                       have hcz88_4 : wr.cell? ⟨gb113, 4, none⟩ = some (.slice Ao20 t107.length co20) := (blk_cell BK113.out 4).trans rfl
                       have hcz88_5 : wr.cell? ⟨gb113, 5, none⟩ = some (.slice Ao21 t110.length co21) := (blk_cell BK113.out 5).trans rfl
                       have hfz88_0 := blk_frozen BK113.out 0
                       have hfz88_1 := blk_frozen BK113.out 1
                       have hfz88_2 := blk_frozen BK113.out 2
                       have hfz88_3 := blk_frozen BK113.out 3
                       have hfz88_4 := blk_frozen BK113.out 4
                       have hfz88_5 := blk_frozen BK113.out 5
                       have p150 : 0 ≤ (x21_5 : Int) := of_decide_eq_true qz4_
                       have q150 : x21_5 < (t104.length : Int) := of_decide_eq_true qz4_
                       obtain ⟨ad150, e150, hx150_0, hx150_1, hx150_2⟩ := at_T53 (Kd.R_reads' HO_114003.out).2.2 x21_5 p150 q150
                       cases e150
                       replace p150 := eq_true p150
                       replace q150 := eq_true q150
                       have p151 : 0 ≤ (x21_5 : Int) := of_decide_eq_true qz4_
                       have q151 : x21_5 < (t104.length : Int) := of_decide_eq_true qz4_
                       obtain ⟨ad151, e151, hx151_0, hx151_1, hx151_2⟩ := at_T53 (Kd.R_reads' HO_114003.out).2.2 x21_5 p151 q151
                       obtain rfl : ad150 = ad151 := (by injection e151)
                       replace p151 := eq_true p151
                       replace q151 := eq_true q151
                       have p152 : 0 ≤ (x21_5 : Int) := of_decide_eq_true qz4_
                       have q152 : x21_5 < (t104.length : Int) := of_decide_eq_true qz4_
                       obtain ⟨ad152, e152, hx152_0, hx152_1, hx152_2⟩ := at_T53 (Kd.R_reads' HO_114003.out).2.2 x21_5 p152 q152
                       obtain rfl : ad150 = ad152 := (by injection e152)
                       replace p152 := eq_true p152
                       replace q152 := eq_true q152
                       have p153 : 0 ≤ (((rd_T53 t104 x21_5).f1) : Int) := of_decide_eq_true qz4_
                       have q153 : ((rd_T53 t104 x21_5).f1) < (t121.length : Int) := of_decide_eq_true qz4_
                       obtain ⟨ad153, e153, hx153_0⟩ := Kd.at_int (Kd.R_reads' HO_8.out).2.2 ((rd_T53 t104 x21_5).f1) p153 q153
                       cases e153
                       replace p153 := eq_true p153
                       replace q153 := eq_true q153
                       go_wp2_with (first | (go_at_call 31; (with_reducible refine (impl_Mul.calls ((rd_T53 t104 x21_5).f2) (rd t121 ((rd_T53 t104 x21_5).f1)) t154 t155 _ A84.out).mono ?_); rintro e w' ⟨rfl, ⟨nd, rfl⟩⟩; (try first | exact ⟨rfl, _, qd1_⟩ | exact ⟨rfl, _, qd2_⟩)) | (go_at_call 32; (with_reducible refine (impl_Add.calls x20_5 t154 t156 t157 _ A85.out).mono ?_); rintro e w' ⟨rfl, ⟨nd, rfl⟩⟩; (try first | exact ⟨rfl, _, qd1_⟩ | exact ⟨rfl, _, qd2_⟩)))
                       repeat (go_quiet (first | (go_at_call 31; (with_reducible refine (impl_Mul.calls ((rd_T53 t104 x21_5).f2) (rd t121 ((rd_T53 t104 x21_5).f1)) t154 t155 _ A84.out).mono ?_); rintro e w' ⟨rfl, ⟨nd, rfl⟩⟩; (try first | exact ⟨rfl, _, qd1_⟩ | exact ⟨rfl, _, qd2_⟩)) | (go_at_call 32; (with_reducible refine (impl_Add.calls x20_5 t154 t156 t157 _ A85.out).mono ?_); rintro e w' ⟨rfl, ⟨nd, rfl⟩⟩; (try first | exact ⟨rfl, _, qd1_⟩ | exact ⟨rfl, _, qd2_⟩))); try go_wp2_with (first | (go_at_call 31; (with_reducible refine (impl_Mul.calls ((rd_T53 t104 x21_5).f2) (rd t121 ((rd_T53 t104 x21_5).f1)) t154 t155 _ A84.out).mono ?_); rintro e w' ⟨rfl, ⟨nd, rfl⟩⟩; (try first | exact ⟨rfl, _, qd1_⟩ | exact ⟨rfl, _, qd2_⟩)) | (go_at_call 32; (with_reducible refine (impl_Add.calls x20_5 t154 t156 t157 _ A85.out).mono ?_); rintro e w' ⟨rfl, ⟨nd, rfl⟩⟩; (try first | exact ⟨rfl, _, qd1_⟩ | exact ⟨rfl, _, qd2_⟩))))
                       go_roundg k5
                       case measure => have := HJ2.out; have := HJ14.out; have := HJ50.out; have := HK4.out; have := HK5.out; omega
                       case rel => exact ⟨(t156), (wrap64 (x21_5 + 1)), qz0_, qz0_, H', ⟨(by have := HJ2.out; have := HJ14.out; have := HJ50.out; have := HK4.out; have := HK5.out; omega)⟩, ⟨qz16_⟩, ⟨qz39_⟩, ⟨qz40_⟩, ⟨qz41_⟩, ⟨qz34_⟩, ⟨qz35_⟩, ⟨qz36_⟩, ⟨qz31_⟩, ⟨qz29_⟩⟩
                      ·
                       rw [if_neg c87] at H
                       have c87b0 : (t157 == 0) = false := beq_eq_false_iff_ne.mpr c87
                       have c87b1 : (t157 != 0) = true := bne_iff_ne.mpr c87
                       exact absurd ((Option.some.inj H).trans hr_) (by decide)
                     ·
                      rw [if_neg c86] at H
                      have c86b0 : (t155 == 0) = false := beq_eq_false_iff_ne.mpr c86
                      have c86b1 : (t155 != 0) = true := bne_iff_ne.mpr c86
                      exact absurd ((Option.some.inj H).trans hr_) (by decide)
                    ·
                     rw [if_neg c83] at H
                     exact absurd H (by simp)
                   ·
                    rw [if_neg c82] at H
                    exact absurd H (by simp)
                  ·
                   rw [if_neg c81] at H
                   have c81b0 : (((rd_T53 t104 x21_5).f0) == x19_4) = false := beq_eq_false_iff_ne.mpr c81
                   have c81b1 : (((rd_T53 t104 x21_5).f0) != x19_4) = true := bne_iff_ne.mpr c81
                   have H' := am_ H
                   clear H
                   have hcz89_0 : wr.cell? ⟨gb113, 0, none⟩ = some (.int .i64 t101) := (blk_cell BK113.out 0).trans rfl
                   have hcz89_1 : wr.cell? ⟨gb113, 1, none⟩ = some (.int .i64 t102) := (blk_cell BK113.out 1).trans rfl
                   have hcz89_2 : wr.cell? ⟨gb113, 2, none⟩ = some (.int .i64 t103) := (blk_cell BK113.out 2).trans rfl
                   have hcz89_3 : wr.cell? ⟨gb113, 3, none⟩ = some (.slice Ao19 t104.length co19) := (blk_cell BK113.out 3).trans rfl
                   have hcz89_4 : wr.cell? ⟨gb113, 4, none⟩ = some (.slice Ao20 t107.length co20) := (blk_cell BK113.out 4).trans rfl
                   have hcz89_5 : wr.cell? ⟨gb113, 5, none⟩ = some (.slice Ao21 t110.length co21) := (blk_cell BK113.out 5).trans rfl
                   have hfz89_0 := blk_frozen BK113.out 0
                   have hfz89_1 := blk_frozen BK113.out 1
                   have hfz89_2 := blk_frozen BK113.out 2
                   have hfz89_3 := blk_frozen BK113.out 3
                   have hfz89_4 := blk_frozen BK113.out 4
                   have hfz89_5 := blk_frozen BK113.out 5
                   have p150 : 0 ≤ (x21_5 : Int) := of_decide_eq_true qz4_
                   have q150 : x21_5 < (t104.length : Int) := of_decide_eq_true qz4_
                   obtain ⟨ad150, e150, hx150_0, hx150_1, hx150_2⟩ := at_T53 (Kd.R_reads' HO_114003.out).2.2 x21_5 p150 q150
                   cases e150
                   replace p150 := eq_true p150
                   replace q150 := eq_true q150
                   go_wp2
                   repeat (go_quiet (fail); try go_wp2)
                   go_roundg k5
                   case measure => have := HJ2.out; have := HJ14.out; have := HJ50.out; have := HK4.out; have := HK5.out; omega
                   case rel => exact ⟨(x20_5), (wrap64 (x21_5 + 1)), qz0_, qz0_, H', ⟨(by have := HJ2.out; have := HJ14.out; have := HJ50.out; have := HK4.out; have := HK5.out; omega)⟩, ⟨qz16_⟩, ⟨qz39_⟩, ⟨qz40_⟩, ⟨qz41_⟩, ⟨qz34_⟩, ⟨qz35_⟩, ⟨qz36_⟩, ⟨qz31_⟩, ⟨qz29_⟩⟩
                 ·
                  rw [if_neg c80] at H
                  exact absurd H (by simp)
                ·
                 rw [if_neg c79] at H
                 have c79b0 : decide (x21_5 < (t104.length : Int)) = false := decide_eq_false c79
                 clear c79
                 by_cases c90 : 0 ≤ x19_4
                 ·
                  rw [if_pos c90] at H
                  have c90b0 : decide (0 ≤ x19_4) = true := decide_eq_true c90
                  clear c90
                  by_cases c91 : x19_4 < (t131.length : Int)
                  ·
                   rw [if_pos c91] at H
                   have c91b0 : decide (x19_4 < (t131.length : Int)) = true := decide_eq_true c91
                   clear c91
                   by_cases c92 : x19_4 < (t135.length : Int)
                   ·
                    rw [if_pos c92] at H
                    have c92b0 : decide (x19_4 < (t135.length : Int)) = true := decide_eq_true c92
                    clear c92
                    replace H := Option.bind_eq_some_iff.mp H
                    obtain ⟨⟨t160, t161⟩, A930, H⟩ := H
                    replace H : (if t161 = 0 then (laws_FnSystem.j5 k5 t121 t131 t135 t139 x18_4 x19_4 t160 (x20_5 != (rd t131 x19_4)) t101 t102 t103 t104 t107 t110) else (laws_FnSystem.j5 k5 t121 t131 t135 t139 x18_4 x19_4 t160 true t101 t102 t103 t104 t107 t110)) = some r := H
                    have A93 := am_ A930
                    clear A930
                    have HC94 := am_ H
                    clear H
                    have hcz95_0 : wr.cell? ⟨gb113, 0, none⟩ = some (.int .i64 t101) := (blk_cell BK113.out 0).trans rfl
                    have hcz95_1 : wr.cell? ⟨gb113, 1, none⟩ = some (.int .i64 t102) := (blk_cell BK113.out 1).trans rfl
                    have hcz95_2 : wr.cell? ⟨gb113, 2, none⟩ = some (.int .i64 t103) := (blk_cell BK113.out 2).trans rfl
                    have hcz95_3 : wr.cell? ⟨gb113, 3, none⟩ = some (.slice Ao19 t104.length co19) := (blk_cell BK113.out 3).trans rfl
                    have hcz95_4 : wr.cell? ⟨gb113, 4, none⟩ = some (.slice Ao20 t107.length co20) := (blk_cell BK113.out 4).trans rfl
                    have hcz95_5 : wr.cell? ⟨gb113, 5, none⟩ = some (.slice Ao21 t110.length co21) := (blk_cell BK113.out 5).trans rfl
                    have hfz95_0 := blk_frozen BK113.out 0
                    have hfz95_1 := blk_frozen BK113.out 1
                    have hfz95_2 := blk_frozen BK113.out 2
                    have hfz95_3 := blk_frozen BK113.out 3
                    have hfz95_4 := blk_frozen BK113.out 4
                    have hfz95_5 := blk_frozen BK113.out 5
                    have p158 : 0 ≤ (x19_4 : Int) := of_decide_eq_true qz4_
                    have q158 : x19_4 < (t131.length : Int) := of_decide_eq_true qz4_
                    obtain ⟨ad158, e158, hx158_0⟩ := Kd.at_int (Kd.R_reads' HO_12.out).2.2 x19_4 p158 q158
                    cases e158
                    replace p158 := eq_true p158
                    replace q158 := eq_true q158
                    obtain ⟨Ao96, co96, eo96⟩ := Kd.R_slice HO_14.out
                    subst eo96
                    have p159 : 0 ≤ (x19_4 : Int) := of_decide_eq_true qz4_
                    have q159 : x19_4 < (t135.length : Int) := of_decide_eq_true qz4_
                    obtain ⟨ad159, e159, hx159_0⟩ := Kd.at_int (Kd.R_reads' HO_14.out).2.2 x19_4 p159 q159
                    cases e159
                    replace p159 := eq_true p159
                    replace q159 := eq_true q159
                    go_upto_region 30 with (first | (go_at_call 31; (with_reducible refine (impl_Mul.calls (rd t131 x19_4) (rd t135 x19_4) t160 t161 _ A93.out).mono ?_); rintro e w' ⟨rfl, ⟨nd, rfl⟩⟩; (try first | exact ⟨rfl, _, qd1_⟩ | exact ⟨rfl, _, qd2_⟩)))
                    repeat (go_quiet (first | (go_at_call 31; (with_reducible refine (impl_Mul.calls (rd t131 x19_4) (rd t135 x19_4) t160 t161 _ A93.out).mono ?_); rintro e w' ⟨rfl, ⟨nd, rfl⟩⟩; (try first | exact ⟨rfl, _, qd1_⟩ | exact ⟨rfl, _, qd2_⟩))); go_upto_region 30 with (first | (go_at_call 31; (with_reducible refine (impl_Mul.calls (rd t131 x19_4) (rd t135 x19_4) t160 t161 _ A93.out).mono ?_); rintro e w' ⟨rfl, ⟨nd, rfl⟩⟩; (try first | exact ⟨rfl, _, qd1_⟩ | exact ⟨rfl, _, qd2_⟩))))
                    (try simp only [Act.put, List.setIfInBounds_toArray, List.set_cons_zero, List.set_cons_succ])
                    go_cut [228] (fun v228 wc => ∃ (kq : Nat) (x228_93 : Bool), v228 = .bool x228_93 ∧ Aside0 (laws_FnSystem.j5 kq t121 t131 t135 t139 x18_4 x19_4 t160 x228_93 t101 t102 t103 t104 t107 t110 = some r) ∧ Aside0 (kq ≤ k5) ∧ Aside0 (Kd.R (Kd.int .i64) 3 wc w.heap.size (fun k_ => some k_ ≠ ((.slice (some ad158) t131.length co77) : Value).ownBlock ∧ some k_ ≠ ((.slice (some ad159) t135.length co96) : Value).ownBlock ∧ some k_ ≠ (v141 : Value).ownBlock) (.slice Ao53 t121.length co53) t121) ∧ Aside0 (Kd.R (Kd.int .i64) 3 wc w.heap.size (fun k_ => some k_ ≠ ((.slice Ao53 t121.length co53) : Value).ownBlock ∧ some k_ ≠ ((.slice (some ad159) t135.length co96) : Value).ownBlock ∧ some k_ ≠ (v141 : Value).ownBlock) (.slice (some ad158) t131.length co77) t131) ∧ Aside0 (Kd.R (Kd.int .i64) 3 wc w.heap.size (fun k_ => some k_ ≠ ((.slice Ao53 t121.length co53) : Value).ownBlock ∧ some k_ ≠ ((.slice (some ad158) t131.length co77) : Value).ownBlock ∧ some k_ ≠ (v141 : Value).ownBlock) (.slice (some ad159) t135.length co96) t135) ∧ Aside0 (Kd.R (Kd.int .i64) 3 wc w.heap.size (fun k_ => some k_ ≠ ((.slice Ao53 t121.length co53) : Value).ownBlock ∧ some k_ ≠ ((.slice (some ad158) t131.length co77) : Value).ownBlock ∧ some k_ ≠ ((.slice (some ad159) t135.length co96) : Value).ownBlock) v141 t139) ∧ Aside0 (Kd.R k53 53 wc w.heap.size (fun k_ => some k_ ≠ ((.slice Ao20 t107.length co20) : Value).ownBlock ∧ some k_ ≠ ((.slice Ao21 t110.length co21) : Value).ownBlock) (.slice Ao19 t104.length co19) t104) ∧ Aside0 (Kd.R k53 53 wc w.heap.size (fun k_ => some k_ ≠ ((.slice Ao19 t104.length co19) : Value).ownBlock ∧ some k_ ≠ ((.slice Ao21 t110.length co21) : Value).ownBlock) (.slice Ao20 t107.length co20) t107) ∧ Aside0 (Kd.R k53 53 wc w.heap.size (fun k_ => some k_ ≠ ((.slice Ao19 t104.length co19) : Value).ownBlock ∧ some k_ ≠ ((.slice Ao20 t107.length co20) : Value).ownBlock) (.slice Ao21 t110.length co21) t110) ∧ Aside0 (wc.heap[gb113]? = some (.cells #[.int .i64 t101, .int .i64 t102, .int .i64 t103, (.slice Ao19 t104.length co19), (.slice Ao20 t107.length co20), (.slice Ao21 t110.length co21)] 29 (0, 0))) ∧ Aside0 (Below w.heap.size w wc))
                    case first =>
                     have H := HC94.out
                     clear HC94
                     by_cases c97 : t161 = 0
                     ·
                      rw [if_pos c97] at H
                      have c97b0 : (t161 == 0) = true := beq_iff_eq.mpr c97
                      have c97b1 : (t161 != 0) = false := bne_eq_false_iff_eq.mpr c97
                      clear c97
                      (first | rw [c97b0] | (simp only [i64_w, i32_w]; rw [c97b0]) | skip)
                      have H' := am_ H
                      clear H
                      have p162 : 0 ≤ (x19_4 : Int) := of_decide_eq_true qz4_
                      have q162 : x19_4 < (t131.length : Int) := of_decide_eq_true qz4_
                      obtain ⟨ad162, e162, hx162_0⟩ := Kd.at_int (Kd.R_reads' HO_12.out).2.2 x19_4 p162 q162
                      obtain rfl : ad158 = ad162 := (by injection e162)
                      replace p162 := eq_true p162
                      replace q162 := eq_true q162
                      go_wp2
                      repeat (go_quiet (fail); try go_wp2)
                      go_meet
                      case rel => exact ⟨_, ((x20_5 != (rd t131 x19_4))), qz0_, H', ⟨(by have := HJ2.out; have := HJ14.out; have := HJ50.out; have := HK4.out; have := HK5.out; first | omega | exact Nat.le_refl _)⟩, ⟨qz16_⟩, ⟨qz39_⟩, ⟨qz40_⟩, ⟨qz41_⟩, ⟨qz34_⟩, ⟨qz35_⟩, ⟨qz36_⟩, ⟨qz31_⟩, ⟨qz29_⟩⟩
                     ·
                      rw [if_neg c97] at H
                      have c97b0 : (t161 == 0) = false := beq_eq_false_iff_ne.mpr c97
                      have c97b1 : (t161 != 0) = true := bne_iff_ne.mpr c97
                      (first | rw [c97b0] | (simp only [i64_w, i32_w]; rw [c97b0]) | skip)
                      have H' := am_ H
                      clear H
                      go_wp2
                      repeat (go_quiet (fail); try go_wp2)
                      go_meet
                      case rel => exact ⟨_, (true), qz0_, H', ⟨(by have := HJ2.out; have := HJ14.out; have := HJ50.out; have := HK4.out; have := HK5.out; first | omega | exact Nat.le_refl _)⟩, ⟨qz16_⟩, ⟨qz39_⟩, ⟨qz40_⟩, ⟨qz41_⟩, ⟨qz34_⟩, ⟨qz35_⟩, ⟨qz36_⟩, ⟨qz31_⟩, ⟨qz29_⟩⟩
                    case rest =>
                     as_aux_lemma =>
                     clear HC94
                     (try clear c1); (try clear p1); (try clear q1); (try clear hx1); (try clear qi1); (try clear p2); (try clear c3); (try clear c4); (try clear c4b0); (try clear c4b1); (try clear c5); (try clear c6); (try clear p6); (try clear c7); (try clear c8); (try clear c9); (try clear c9b0); (try clear c9b1); (try clear p13); (try clear q13); (try clear hx13); (try clear qi13)
                     (try clear p15); (try clear q15); (try clear hx15); (try clear p16); (try clear q16); (try clear hx16); (try clear c31); (try clear c31b0); (try clear c31b1); (try clear c33); (try clear c35); (try clear c35b0); (try clear c35b1); (try clear c37); (try clear c37b0); (try clear c37b1); (try clear c38); (try clear c38b0); (try clear c38b1); (try clear c47); (try clear c59)
                     (try clear c59b0); (try clear c59b1); (try clear c60); (try clear c60b0); (try clear c60b1); (try clear c61); (try clear c61b0); (try clear c61b1); (try clear c63); (try clear c63b0); (try clear c63b1); (try clear p64); (try clear c65); (try clear c65b0); (try clear c65b1); (try clear c66); (try clear c66b0); (try clear c66b1); (try clear c66b2); (try clear c76)
                     (try clear c78); (try clear c78b0); (try clear c79); (try clear c79b0); (try clear c80); (try clear c80b0); (try clear c81); (try clear c81b0); (try clear c81b1); (try clear c82); (try clear c82b0); (try clear c83); (try clear c83b0); (try clear c86); (try clear c86b0); (try clear c86b1); (try clear c87); (try clear c87b0); (try clear c87b1); (try clear c90)
                     (try clear c90b0); (try clear c91); (try clear c91b0); (try clear c92); (try clear c92b0); (try clear c97); (try clear c97b0); (try clear c97b1); (try clear hcz18_0); (try clear hcz18_1); (try clear hcz18_2); (try clear hcz18_3); (try clear hcz18_4); (try clear hcz18_5); (try clear hcz23_0); (try clear hcz23_1); (try clear hcz23_2); (try clear hcz23_3); (try clear hcz23_4)
                     (try clear hcz23_5); (try clear hcz25_0); (try clear hcz25_1); (try clear hcz25_2); (try clear hcz25_3); (try clear hcz25_4); (try clear hcz25_5); (try clear hcz29_0); (try clear hcz29_1); (try clear hcz29_2); (try clear hcz29_3); (try clear hcz29_4); (try clear hcz29_5); (try clear hcz41_0); (try clear hcz41_1); (try clear hcz41_2); (try clear hcz41_3); (try clear hcz41_4)
                     (try clear hcz41_5); (try clear hcz44_0); (try clear hcz44_1); (try clear hcz44_2); (try clear hcz44_3); (try clear hcz44_4); (try clear hcz44_5); (try clear hcz52_0); (try clear hcz52_1); (try clear hcz52_2); (try clear hcz52_3); (try clear hcz52_4); (try clear hcz52_5); (try clear hcz55_0); (try clear hcz55_1); (try clear hcz55_2); (try clear hcz55_3); (try clear hcz55_4)
                     (try clear hcz55_5); (try clear hcz57_0); (try clear hcz57_1); (try clear hcz57_2); (try clear hcz57_3); (try clear hcz57_4); (try clear hcz57_5); (try clear hcz68_0); (try clear hcz68_1); (try clear hcz68_2); (try clear hcz68_3); (try clear hcz68_4); (try clear hcz68_5); (try clear hcz72_0); (try clear hcz72_1); (try clear hcz72_2); (try clear hcz72_3); (try clear hcz72_4)
                     (try clear hcz72_5); (try clear hcz75_0); (try clear hcz75_1); (try clear hcz75_2); (try clear hcz75_3); (try clear hcz75_4); (try clear hcz75_5); (try clear hcz88_0); (try clear hcz88_1); (try clear hcz88_2); (try clear hcz88_3); (try clear hcz88_4); (try clear hcz88_5); (try clear hcz89_0); (try clear hcz89_1); (try clear hcz89_2); (try clear hcz89_3); (try clear hcz89_4)
                     (try clear hcz89_5); (try clear hcz95_0); (try clear hcz95_1); (try clear hcz95_2); (try clear hcz95_3); (try clear hcz95_4); (try clear hcz95_5); (try clear hfz18_0); (try clear hfz18_1); (try clear hfz18_2); (try clear hfz18_3); (try clear hfz18_4); (try clear hfz18_5); (try clear hfz23_0); (try clear hfz23_1); (try clear hfz23_2); (try clear hfz23_3); (try clear hfz23_4)
                     (try clear hfz23_5); (try clear hfz25_0); (try clear hfz25_1); (try clear hfz25_2); (try clear hfz25_3); (try clear hfz25_4); (try clear hfz25_5); (try clear hfz29_0); (try clear hfz29_1); (try clear hfz29_2); (try clear hfz29_3); (try clear hfz29_4); (try clear hfz29_5); (try clear hfz41_0); (try clear hfz41_1); (try clear hfz41_2); (try clear hfz41_3); (try clear hfz41_4)
                     (try clear hfz41_5); (try clear hfz44_0); (try clear hfz44_1); (try clear hfz44_2); (try clear hfz44_3); (try clear hfz44_4); (try clear hfz44_5); (try clear hfz52_0); (try clear hfz52_1); (try clear hfz52_2); (try clear hfz52_3); (try clear hfz52_4); (try clear hfz52_5); (try clear hfz55_0); (try clear hfz55_1); (try clear hfz55_2); (try clear hfz55_3); (try clear hfz55_4)
                     (try clear hfz55_5); (try clear hfz57_0); (try clear hfz57_1); (try clear hfz57_2); (try clear hfz57_3); (try clear hfz57_4); (try clear hfz57_5); (try clear hfz68_0); (try clear hfz68_1); (try clear hfz68_2); (try clear hfz68_3); (try clear hfz68_4); (try clear hfz68_5); (try clear hfz72_0); (try clear hfz72_1); (try clear hfz72_2); (try clear hfz72_3); (try clear hfz72_4)
                     (try clear hfz72_5); (try clear hfz75_0); (try clear hfz75_1); (try clear hfz75_2); (try clear hfz75_3); (try clear hfz75_4); (try clear hfz75_5); (try clear hfz88_0); (try clear hfz88_1); (try clear hfz88_2); (try clear hfz88_3); (try clear hfz88_4); (try clear hfz88_5); (try clear hfz89_0); (try clear hfz89_1); (try clear hfz89_2); (try clear hfz89_3); (try clear hfz89_4)
                     (try clear hfz89_5); (try clear hfz95_0); (try clear hfz95_1); (try clear hfz95_2); (try clear hfz95_3); (try clear hfz95_4); (try clear hfz95_5); (try clear hx130_0); (try clear hx150_0); (try clear hx150_1); (try clear hx150_2); (try clear hx151_0); (try clear hx151_1); (try clear hx151_2); (try clear hx152_0); (try clear hx152_1); (try clear hx152_2); (try clear hx153_0)
                     (try clear hx158_0); (try clear hx159_0); (try clear hx162_0); (try clear p1); (try clear p13); (try clear p130); (try clear p150); (try clear p151); (try clear p152); (try clear p153); (try clear p158); (try clear p159); (try clear p162); (try clear p2); (try clear p6); (try clear p64); (try clear q1); (try clear q13); (try clear q130); (try clear q150); (try clear q151)
                     (try clear q152); (try clear q153); (try clear q158); (try clear q159); (try clear q162)
                     obtain ⟨kq, x228_93, rfl, HA, HJ93, HO_8, HO_12, HO_14, HO_16, HO_114003, HO_114004, HO_114005, BK113, HB⟩ := hcut
                     cases kq with
                     | zero => exact absurd HA.out (by simp [laws_FnSystem.j5])
                     | succ kj93 =>
                      have H := HA.out
                      clear HA
                      simp only [laws_FnSystem.j5] at H
                      by_cases c98 : x228_93 = true
                      ·
                       subst c98
                       have H1 : (some false) = some r := by rw [if_pos rfl] at H; exact H
                       clear H
                       have H := H1
                       clear H1
                       exact absurd ((Option.some.inj H).trans hr_) (by decide)
                      ·
                       replace c98 := Bool.eq_false_iff.mpr c98
                       subst c98
                       have H1 : (if 0 ≤ x19_4 then (if x19_4 < (t139.length : Int) then (if t160 = (rd t139 x19_4) then (laws_FnSystem.l0 kj93 t121 t131 t135 t139 x18_4 (wrap64 (x19_4 - 1)) t101 t102 t103 t104 t107 t110) else (laws_FnSystem.l0 kj93 t121 t131 t135 t139 x19_4 (wrap64 (x19_4 - 1)) t101 t102 t103 t104 t107 t110)) else (none)) else (none)) = some r := by rw [if_neg (show ¬ (false = true) by decide)] at H; exact H
                       clear H
                       have H := H1
                       clear H1
                       by_cases c99 : 0 ≤ x19_4
                       ·
                        rw [if_pos c99] at H
                        have c99b0 : decide (0 ≤ x19_4) = true := decide_eq_true c99
                        clear c99
                        by_cases c100 : x19_4 < (t139.length : Int)
                        ·
                         rw [if_pos c100] at H
                         have c100b0 : decide (x19_4 < (t139.length : Int)) = true := decide_eq_true c100
                         clear c100
                         by_cases c101 : t160 = (rd t139 x19_4)
                         ·
                          rw [if_pos c101] at H
                          have c101b0 : (t160 == (rd t139 x19_4)) = true := beq_iff_eq.mpr c101
                          have c101b1 : (t160 != (rd t139 x19_4)) = false := bne_eq_false_iff_eq.mpr c101
                          clear c101
                          have H' := am_ H
                          clear H
                          obtain ⟨Ao102, co102, eo102⟩ := Kd.R_slice HO_16.out
                          subst eo102
                          have p163 : 0 ≤ (x19_4 : Int) := of_decide_eq_true qz4_
                          have q163 : x19_4 < (t139.length : Int) := of_decide_eq_true qz4_
                          obtain ⟨ad163, e163, hx163_0⟩ := Kd.at_int (Kd.R_reads' HO_16.out).2.2 x19_4 p163 q163
                          cases e163
                          replace p163 := eq_true p163
                          replace q163 := eq_true q163
                          go_wp2
                          repeat (go_quiet (fail); try go_wp2)
                          go_roundg kj93
                          case measure => have := HJ2.out; have := HJ14.out; have := HJ50.out; have := HK4.out; have := HK5.out; have := HJ93.out; omega
                          case rel => exact ⟨(x18_4), (wrap64 (x19_4 - 1)), qz0_, qz0_, H', ⟨(by have := HJ2.out; have := HJ14.out; have := HJ50.out; have := HK4.out; have := HK5.out; have := HJ93.out; omega)⟩, ⟨qz16_⟩, ⟨qz39_⟩, ⟨qz40_⟩, ⟨qz41_⟩, ⟨qz34_⟩, ⟨qz35_⟩, ⟨qz36_⟩, ⟨qz31_⟩, ⟨qz29_⟩⟩
                         ·
                          rw [if_neg c101] at H
                          have c101b0 : (t160 == (rd t139 x19_4)) = false := beq_eq_false_iff_ne.mpr c101
                          have c101b1 : (t160 != (rd t139 x19_4)) = true := bne_iff_ne.mpr c101
                          have H' := am_ H
                          clear H
                          obtain ⟨Ao103, co103, eo103⟩ := Kd.R_slice HO_16.out
                          subst eo103
                          have p163 : 0 ≤ (x19_4 : Int) := of_decide_eq_true qz4_
                          have q163 : x19_4 < (t139.length : Int) := of_decide_eq_true qz4_
                          obtain ⟨ad163, e163, hx163_0⟩ := Kd.at_int (Kd.R_reads' HO_16.out).2.2 x19_4 p163 q163
                          cases e163
                          replace p163 := eq_true p163
                          replace q163 := eq_true q163
                          go_wp2
                          repeat (go_quiet (fail); try go_wp2)
                          go_roundg kj93
                          case measure => have := HJ2.out; have := HJ14.out; have := HJ50.out; have := HK4.out; have := HK5.out; have := HJ93.out; omega
                          case rel => exact ⟨(x19_4), (wrap64 (x19_4 - 1)), qz0_, qz0_, H', ⟨(by have := HJ2.out; have := HJ14.out; have := HJ50.out; have := HK4.out; have := HK5.out; have := HJ93.out; omega)⟩, ⟨qz16_⟩, ⟨qz39_⟩, ⟨qz40_⟩, ⟨qz41_⟩, ⟨qz34_⟩, ⟨qz35_⟩, ⟨qz36_⟩, ⟨qz31_⟩, ⟨qz29_⟩⟩
                        ·
                         rw [if_neg c100] at H
                         exact absurd H (by simp)
                       ·
                        rw [if_neg c99] at H
                        exact absurd H (by simp)
                   ·
                    rw [if_neg c92] at H
                    exact absurd H (by simp)
                  ·
                   rw [if_neg c91] at H
                   exact absurd H (by simp)
                 ·
                  rw [if_neg c90] at H
                  exact absurd H (by simp)
             ·
              rw [if_neg c78] at H
              have c78b0 : decide (0 ≤ x19_4) = false := decide_eq_false c78
              clear c78
              replace H := Option.bind_eq_some_iff.mp H
              obtain ⟨⟨t143, t144⟩, A1040, H⟩ := H
              replace H : ((impl_FailedRow.f k4 t101 t102 t103 t104 t107 t110 t121).bind fun bt145 => (if t144 = 0 then (if (t143 == (decide (x18_4 < 0))) = true then (if x18_4 < 0 then (if bt145.2 = 5 then ((impl_SystemOK.f k4 t101 t102 t103 t104 t107 t110).bind fun t147 => (some t147)) else (if x18_4 ≥ 0 then (if bt145.2 = 0 then (if bt145.1 = x18_4 then ((impl_SystemOK.f k4 t101 t102 t103 t104 t107 t110).bind fun t148 => (some t148)) else (some false)) else (some false)) else (some false))) else (if x18_4 ≥ 0 then (if bt145.2 = 0 then (if bt145.1 = x18_4 then ((impl_SystemOK.f k4 t101 t102 t103 t104 t107 t110).bind fun t149 => (some t149)) else (some false)) else (some false)) else (some false))) else (some false)) else (some false))) = some r := H
              have A104 := am_ A1040
              clear A1040
              replace H := Option.bind_eq_some_iff.mp H
              obtain ⟨⟨t145, t146⟩, A1050, H⟩ := H
              replace H : (if t144 = 0 then (if (t143 == (decide (x18_4 < 0))) = true then (if x18_4 < 0 then (if t146 = 5 then ((impl_SystemOK.f k4 t101 t102 t103 t104 t107 t110).bind fun t147 => (some t147)) else (if x18_4 ≥ 0 then (if t146 = 0 then (if t145 = x18_4 then ((impl_SystemOK.f k4 t101 t102 t103 t104 t107 t110).bind fun t148 => (some t148)) else (some false)) else (some false)) else (some false))) else (if x18_4 ≥ 0 then (if t146 = 0 then (if t145 = x18_4 then ((impl_SystemOK.f k4 t101 t102 t103 t104 t107 t110).bind fun t149 => (some t149)) else (some false)) else (some false)) else (some false))) else (some false)) else (some false)) = some r := H
              have A105 := am_ A1050
              clear A1050
              by_cases c106 : t144 = 0
              ·
               rw [if_pos c106] at H
               have c106b0 : (t144 == 0) = true := beq_iff_eq.mpr c106
               have c106b1 : (t144 != 0) = false := bne_eq_false_iff_eq.mpr c106
               clear c106
               by_cases c107 : (t143 == (decide (x18_4 < 0))) = true
               ·
                rw [if_pos c107] at H
                have c107b0 : (t143 == (decide (x18_4 < 0))) = true := c107
                (try (have c107b1 : decide (t143 = (decide (x18_4 < 0))) = true := by simpa using c107))
                (try (have c107b2 : (t143 == (decide (x18_4 < 0))) = true := by simpa using c107))
                clear c107
                by_cases c108 : x18_4 < 0
                ·
                 rw [if_pos c108] at H
                 have c108b0 : decide (x18_4 < 0) = true := decide_eq_true c108
                 have e143 : t143 = true := by have h_ := c107b0; rw [c108b0] at h_; simpa using h_
                 clear c108
                 by_cases c109 : t146 = 5
                 ·
                  rw [if_pos c109] at H
                  have c109b0 : (t146 == 5) = true := beq_iff_eq.mpr c109
                  have c109b1 : (t146 != 5) = false := bne_eq_false_iff_eq.mpr c109
                  clear c109
                  replace H := Option.bind_eq_some_iff.mp H
                  obtain ⟨t147, A1100, H⟩ := H
                  replace H : (some t147) = some r := H
                  have A110 := am_ A1100
                  clear A1100
                  obtain rfl := Option.some.inj H
                  have hcz111_0 : wr.cell? ⟨gb113, 0, none⟩ = some (.int .i64 t101) := (blk_cell BK113.out 0).trans rfl
                  have hcz111_1 : wr.cell? ⟨gb113, 1, none⟩ = some (.int .i64 t102) := (blk_cell BK113.out 1).trans rfl
                  have hcz111_2 : wr.cell? ⟨gb113, 2, none⟩ = some (.int .i64 t103) := (blk_cell BK113.out 2).trans rfl
                  have hcz111_3 : wr.cell? ⟨gb113, 3, none⟩ = some (.slice Ao19 t104.length co19) := (blk_cell BK113.out 3).trans rfl
                  have hcz111_4 : wr.cell? ⟨gb113, 4, none⟩ = some (.slice Ao20 t107.length co20) := (blk_cell BK113.out 4).trans rfl
                  have hcz111_5 : wr.cell? ⟨gb113, 5, none⟩ = some (.slice Ao21 t110.length co21) := (blk_cell BK113.out 5).trans rfl
                  have hfz111_0 := blk_frozen BK113.out 0
                  have hfz111_1 := blk_frozen BK113.out 1
                  have hfz111_2 := blk_frozen BK113.out 2
                  have hfz111_3 := blk_frozen BK113.out 3
                  have hfz111_4 := blk_frozen BK113.out 4
                  have hfz111_5 := blk_frozen BK113.out 5
                  go_wp2_with (first | (go_at_call 23; (with_reducible refine (impl_Satisfied.calls k4 t101 t102 t103 _ _ t104 _ _ t107 _ _ t110 _ _ t121 t143 t144 _ ?side1 ?side2 ?side3 ?side4 ?side5 ?side6 ?side7 ?side8 A104.out).mono ?_); (case side1 => exact qc_ (Kd.R_reads' HO_114003.out).2.2); (case side2 => exact (Kd.R_reads' HO_114003.out).2.1); (case side3 => exact qc_ (Kd.R_reads' HO_114004.out).2.2); (case side4 => exact (Kd.R_reads' HO_114004.out).2.1); (case side5 => exact qc_ (Kd.R_reads' HO_114005.out).2.2); (case side6 => exact (Kd.R_reads' HO_114005.out).2.1); (case side7 => exact qc_ (Kd.R_reads' HO_8.out).2.2); (case side8 => exact (Kd.R_reads' HO_8.out).2.1); rintro e w112 ⟨rfl, hb⟩; have n0_ := am_ (Kd.R_below qz16_ hb); have n1_ := am_ (Kd.R_below qz39_ hb); have n2_ := am_ (Kd.R_below qz40_ hb); have n3_ := am_ (Kd.R_below qz41_ hb); have n4_ := am_ (Kd.R_below qz34_ hb); have n5_ := am_ (Kd.R_below qz35_ hb); have n6_ := am_ (Kd.R_below qz36_ hb); have n7_ := am_ (blk_below (g := gb113) (o := .cells #[.int .i64 t101, .int .i64 t102, .int .i64 t103, .slice Ao19 t104.length co19, .slice Ao20 t107.length co20, .slice Ao21 t110.length co21] 29 (0, 0)) qz31_ hb); have n8_ := am_ (below_step qz29_ hb); clear HO_8; clear HO_12; clear HO_14; clear HO_16; clear HO_114003; clear HO_114004; clear HO_114005; clear BK113; clear HB; have HO_8 := n0_; have HO_12 := n1_; have HO_14 := n2_; have HO_16 := n3_; have HO_114003 := n4_; have HO_114004 := n5_; have HO_114005 := n6_; have BK113 := n7_; have HB := n8_; clear n0_ n1_ n2_ n3_ n4_ n5_ n6_ n7_ n8_; (try clear hb); (try clear hb2); (try clear hk); (try clear hi); have hcz113_0 : w112.cell? ⟨gb113, 0, none⟩ = some (.int .i64 t101) := (blk_cell BK113.out 0).trans rfl; have hcz113_1 : w112.cell? ⟨gb113, 1, none⟩ = some (.int .i64 t102) := (blk_cell BK113.out 1).trans rfl; have hcz113_2 : w112.cell? ⟨gb113, 2, none⟩ = some (.int .i64 t103) := (blk_cell BK113.out 2).trans rfl; have hcz113_3 : w112.cell? ⟨gb113, 3, none⟩ = some (.slice Ao19 t104.length co19) := (blk_cell BK113.out 3).trans rfl; have hcz113_4 : w112.cell? ⟨gb113, 4, none⟩ = some (.slice Ao20 t107.length co20) := (blk_cell BK113.out 4).trans rfl; have hcz113_5 : w112.cell? ⟨gb113, 5, none⟩ = some (.slice Ao21 t110.length co21) := (blk_cell BK113.out 5).trans rfl; have hfz113_0 := blk_frozen BK113.out 0; have hfz113_1 := blk_frozen BK113.out 1; have hfz113_2 := blk_frozen BK113.out 2; have hfz113_3 := blk_frozen BK113.out 3; have hfz113_4 := blk_frozen BK113.out 4; have hfz113_5 := blk_frozen BK113.out 5) | (go_at_call 25; (with_reducible refine (impl_FailedRow.calls k4 t101 t102 t103 _ _ t104 _ _ t107 _ _ t110 _ _ t121 t145 t146 _ ?side1 ?side2 ?side3 ?side4 ?side5 ?side6 ?side7 ?side8 A105.out).mono ?_); (case side1 => exact qc_ (Kd.R_reads' HO_114003.out).2.2); (case side2 => exact (Kd.R_reads' HO_114003.out).2.1); (case side3 => exact qc_ (Kd.R_reads' HO_114004.out).2.2); (case side4 => exact (Kd.R_reads' HO_114004.out).2.1); (case side5 => exact qc_ (Kd.R_reads' HO_114005.out).2.2); (case side6 => exact (Kd.R_reads' HO_114005.out).2.1); (case side7 => exact qc_ (Kd.R_reads' HO_8.out).2.2); (case side8 => exact (Kd.R_reads' HO_8.out).2.1); rintro e w114 ⟨rfl, hb⟩; have n0_ := am_ (Kd.R_below qz16_ hb); have n1_ := am_ (Kd.R_below qz39_ hb); have n2_ := am_ (Kd.R_below qz40_ hb); have n3_ := am_ (Kd.R_below qz41_ hb); have n4_ := am_ (Kd.R_below qz34_ hb); have n5_ := am_ (Kd.R_below qz35_ hb); have n6_ := am_ (Kd.R_below qz36_ hb); have n7_ := am_ (blk_below (g := gb113) (o := .cells #[.int .i64 t101, .int .i64 t102, .int .i64 t103, .slice Ao19 t104.length co19, .slice Ao20 t107.length co20, .slice Ao21 t110.length co21] 29 (0, 0)) qz31_ hb); have n8_ := am_ (below_step qz29_ hb); clear HO_8; clear HO_12; clear HO_14; clear HO_16; clear HO_114003; clear HO_114004; clear HO_114005; clear BK113; clear HB; have HO_8 := n0_; have HO_12 := n1_; have HO_14 := n2_; have HO_16 := n3_; have HO_114003 := n4_; have HO_114004 := n5_; have HO_114005 := n6_; have BK113 := n7_; have HB := n8_; clear n0_ n1_ n2_ n3_ n4_ n5_ n6_ n7_ n8_; (try clear hb); (try clear hb2); (try clear hk); (try clear hi); have hcz115_0 : w114.cell? ⟨gb113, 0, none⟩ = some (.int .i64 t101) := (blk_cell BK113.out 0).trans rfl; have hcz115_1 : w114.cell? ⟨gb113, 1, none⟩ = some (.int .i64 t102) := (blk_cell BK113.out 1).trans rfl; have hcz115_2 : w114.cell? ⟨gb113, 2, none⟩ = some (.int .i64 t103) := (blk_cell BK113.out 2).trans rfl; have hcz115_3 : w114.cell? ⟨gb113, 3, none⟩ = some (.slice Ao19 t104.length co19) := (blk_cell BK113.out 3).trans rfl; have hcz115_4 : w114.cell? ⟨gb113, 4, none⟩ = some (.slice Ao20 t107.length co20) := (blk_cell BK113.out 4).trans rfl; have hcz115_5 : w114.cell? ⟨gb113, 5, none⟩ = some (.slice Ao21 t110.length co21) := (blk_cell BK113.out 5).trans rfl; have hfz115_0 := blk_frozen BK113.out 0; have hfz115_1 := blk_frozen BK113.out 1; have hfz115_2 := blk_frozen BK113.out 2; have hfz115_3 := blk_frozen BK113.out 3; have hfz115_4 := blk_frozen BK113.out 4; have hfz115_5 := blk_frozen BK113.out 5) | (go_at_call 13; (with_reducible refine (impl_SystemOK.calls k4 t101 t102 t103 _ _ t104 _ _ t107 _ _ t110 t147 _ ?side1 ?side2 ?side3 ?side4 ?side5 ?side6 A110.out).mono ?_); (case side1 => exact qc_ (Kd.R_reads' HO_114003.out).2.2); (case side2 => exact (Kd.R_reads' HO_114003.out).2.1); (case side3 => exact qc_ (Kd.R_reads' HO_114004.out).2.2); (case side4 => exact (Kd.R_reads' HO_114004.out).2.1); (case side5 => exact qc_ (Kd.R_reads' HO_114005.out).2.2); (case side6 => exact (Kd.R_reads' HO_114005.out).2.1); rintro e w116 ⟨rfl, hb⟩; have n0_ := am_ (Kd.R_below qz16_ hb); have n1_ := am_ (Kd.R_below qz39_ hb); have n2_ := am_ (Kd.R_below qz40_ hb); have n3_ := am_ (Kd.R_below qz41_ hb); have n4_ := am_ (Kd.R_below qz34_ hb); have n5_ := am_ (Kd.R_below qz35_ hb); have n6_ := am_ (Kd.R_below qz36_ hb); have n7_ := am_ (blk_below (g := gb113) (o := .cells #[.int .i64 t101, .int .i64 t102, .int .i64 t103, .slice Ao19 t104.length co19, .slice Ao20 t107.length co20, .slice Ao21 t110.length co21] 29 (0, 0)) qz31_ hb); have n8_ := am_ (below_step qz29_ hb); clear HO_8; clear HO_12; clear HO_14; clear HO_16; clear HO_114003; clear HO_114004; clear HO_114005; clear BK113; clear HB; have HO_8 := n0_; have HO_12 := n1_; have HO_14 := n2_; have HO_16 := n3_; have HO_114003 := n4_; have HO_114004 := n5_; have HO_114005 := n6_; have BK113 := n7_; have HB := n8_; clear n0_ n1_ n2_ n3_ n4_ n5_ n6_ n7_ n8_; (try clear hb); (try clear hb2); (try clear hk); (try clear hi)))
                  repeat (go_quiet (first | (go_at_call 23; (with_reducible refine (impl_Satisfied.calls k4 t101 t102 t103 _ _ t104 _ _ t107 _ _ t110 _ _ t121 t143 t144 _ ?side1 ?side2 ?side3 ?side4 ?side5 ?side6 ?side7 ?side8 A104.out).mono ?_); (case side1 => exact qc_ (Kd.R_reads' HO_114003.out).2.2); (case side2 => exact (Kd.R_reads' HO_114003.out).2.1); (case side3 => exact qc_ (Kd.R_reads' HO_114004.out).2.2); (case side4 => exact (Kd.R_reads' HO_114004.out).2.1); (case side5 => exact qc_ (Kd.R_reads' HO_114005.out).2.2); (case side6 => exact (Kd.R_reads' HO_114005.out).2.1); (case side7 => exact qc_ (Kd.R_reads' HO_8.out).2.2); (case side8 => exact (Kd.R_reads' HO_8.out).2.1); rintro e w112 ⟨rfl, hb⟩; have n0_ := am_ (Kd.R_below qz16_ hb); have n1_ := am_ (Kd.R_below qz39_ hb); have n2_ := am_ (Kd.R_below qz40_ hb); have n3_ := am_ (Kd.R_below qz41_ hb); have n4_ := am_ (Kd.R_below qz34_ hb); have n5_ := am_ (Kd.R_below qz35_ hb); have n6_ := am_ (Kd.R_below qz36_ hb); have n7_ := am_ (blk_below (g := gb113) (o := .cells #[.int .i64 t101, .int .i64 t102, .int .i64 t103, .slice Ao19 t104.length co19, .slice Ao20 t107.length co20, .slice Ao21 t110.length co21] 29 (0, 0)) qz31_ hb); have n8_ := am_ (below_step qz29_ hb); clear HO_8; clear HO_12; clear HO_14; clear HO_16; clear HO_114003; clear HO_114004; clear HO_114005; clear BK113; clear HB; have HO_8 := n0_; have HO_12 := n1_; have HO_14 := n2_; have HO_16 := n3_; have HO_114003 := n4_; have HO_114004 := n5_; have HO_114005 := n6_; have BK113 := n7_; have HB := n8_; clear n0_ n1_ n2_ n3_ n4_ n5_ n6_ n7_ n8_; (try clear hb); (try clear hb2); (try clear hk); (try clear hi); have hcz113_0 : w112.cell? ⟨gb113, 0, none⟩ = some (.int .i64 t101) := (blk_cell BK113.out 0).trans rfl; have hcz113_1 : w112.cell? ⟨gb113, 1, none⟩ = some (.int .i64 t102) := (blk_cell BK113.out 1).trans rfl; have hcz113_2 : w112.cell? ⟨gb113, 2, none⟩ = some (.int .i64 t103) := (blk_cell BK113.out 2).trans rfl; have hcz113_3 : w112.cell? ⟨gb113, 3, none⟩ = some (.slice Ao19 t104.length co19) := (blk_cell BK113.out 3).trans rfl; have hcz113_4 : w112.cell? ⟨gb113, 4, none⟩ = some (.slice Ao20 t107.length co20) := (blk_cell BK113.out 4).trans rfl; have hcz113_5 : w112.cell? ⟨gb113, 5, none⟩ = some (.slice Ao21 t110.length co21) := (blk_cell BK113.out 5).trans rfl; have hfz113_0 := blk_frozen BK113.out 0; have hfz113_1 := blk_frozen BK113.out 1; have hfz113_2 := blk_frozen BK113.out 2; have hfz113_3 := blk_frozen BK113.out 3; have hfz113_4 := blk_frozen BK113.out 4; have hfz113_5 := blk_frozen BK113.out 5) | (go_at_call 25; (with_reducible refine (impl_FailedRow.calls k4 t101 t102 t103 _ _ t104 _ _ t107 _ _ t110 _ _ t121 t145 t146 _ ?side1 ?side2 ?side3 ?side4 ?side5 ?side6 ?side7 ?side8 A105.out).mono ?_); (case side1 => exact qc_ (Kd.R_reads' HO_114003.out).2.2); (case side2 => exact (Kd.R_reads' HO_114003.out).2.1); (case side3 => exact qc_ (Kd.R_reads' HO_114004.out).2.2); (case side4 => exact (Kd.R_reads' HO_114004.out).2.1); (case side5 => exact qc_ (Kd.R_reads' HO_114005.out).2.2); (case side6 => exact (Kd.R_reads' HO_114005.out).2.1); (case side7 => exact qc_ (Kd.R_reads' HO_8.out).2.2); (case side8 => exact (Kd.R_reads' HO_8.out).2.1); rintro e w114 ⟨rfl, hb⟩; have n0_ := am_ (Kd.R_below qz16_ hb); have n1_ := am_ (Kd.R_below qz39_ hb); have n2_ := am_ (Kd.R_below qz40_ hb); have n3_ := am_ (Kd.R_below qz41_ hb); have n4_ := am_ (Kd.R_below qz34_ hb); have n5_ := am_ (Kd.R_below qz35_ hb); have n6_ := am_ (Kd.R_below qz36_ hb); have n7_ := am_ (blk_below (g := gb113) (o := .cells #[.int .i64 t101, .int .i64 t102, .int .i64 t103, .slice Ao19 t104.length co19, .slice Ao20 t107.length co20, .slice Ao21 t110.length co21] 29 (0, 0)) qz31_ hb); have n8_ := am_ (below_step qz29_ hb); clear HO_8; clear HO_12; clear HO_14; clear HO_16; clear HO_114003; clear HO_114004; clear HO_114005; clear BK113; clear HB; have HO_8 := n0_; have HO_12 := n1_; have HO_14 := n2_; have HO_16 := n3_; have HO_114003 := n4_; have HO_114004 := n5_; have HO_114005 := n6_; have BK113 := n7_; have HB := n8_; clear n0_ n1_ n2_ n3_ n4_ n5_ n6_ n7_ n8_; (try clear hb); (try clear hb2); (try clear hk); (try clear hi); have hcz115_0 : w114.cell? ⟨gb113, 0, none⟩ = some (.int .i64 t101) := (blk_cell BK113.out 0).trans rfl; have hcz115_1 : w114.cell? ⟨gb113, 1, none⟩ = some (.int .i64 t102) := (blk_cell BK113.out 1).trans rfl; have hcz115_2 : w114.cell? ⟨gb113, 2, none⟩ = some (.int .i64 t103) := (blk_cell BK113.out 2).trans rfl; have hcz115_3 : w114.cell? ⟨gb113, 3, none⟩ = some (.slice Ao19 t104.length co19) := (blk_cell BK113.out 3).trans rfl; have hcz115_4 : w114.cell? ⟨gb113, 4, none⟩ = some (.slice Ao20 t107.length co20) := (blk_cell BK113.out 4).trans rfl; have hcz115_5 : w114.cell? ⟨gb113, 5, none⟩ = some (.slice Ao21 t110.length co21) := (blk_cell BK113.out 5).trans rfl; have hfz115_0 := blk_frozen BK113.out 0; have hfz115_1 := blk_frozen BK113.out 1; have hfz115_2 := blk_frozen BK113.out 2; have hfz115_3 := blk_frozen BK113.out 3; have hfz115_4 := blk_frozen BK113.out 4; have hfz115_5 := blk_frozen BK113.out 5) | (go_at_call 13; (with_reducible refine (impl_SystemOK.calls k4 t101 t102 t103 _ _ t104 _ _ t107 _ _ t110 t147 _ ?side1 ?side2 ?side3 ?side4 ?side5 ?side6 A110.out).mono ?_); (case side1 => exact qc_ (Kd.R_reads' HO_114003.out).2.2); (case side2 => exact (Kd.R_reads' HO_114003.out).2.1); (case side3 => exact qc_ (Kd.R_reads' HO_114004.out).2.2); (case side4 => exact (Kd.R_reads' HO_114004.out).2.1); (case side5 => exact qc_ (Kd.R_reads' HO_114005.out).2.2); (case side6 => exact (Kd.R_reads' HO_114005.out).2.1); rintro e w116 ⟨rfl, hb⟩; have n0_ := am_ (Kd.R_below qz16_ hb); have n1_ := am_ (Kd.R_below qz39_ hb); have n2_ := am_ (Kd.R_below qz40_ hb); have n3_ := am_ (Kd.R_below qz41_ hb); have n4_ := am_ (Kd.R_below qz34_ hb); have n5_ := am_ (Kd.R_below qz35_ hb); have n6_ := am_ (Kd.R_below qz36_ hb); have n7_ := am_ (blk_below (g := gb113) (o := .cells #[.int .i64 t101, .int .i64 t102, .int .i64 t103, .slice Ao19 t104.length co19, .slice Ao20 t107.length co20, .slice Ao21 t110.length co21] 29 (0, 0)) qz31_ hb); have n8_ := am_ (below_step qz29_ hb); clear HO_8; clear HO_12; clear HO_14; clear HO_16; clear HO_114003; clear HO_114004; clear HO_114005; clear BK113; clear HB; have HO_8 := n0_; have HO_12 := n1_; have HO_14 := n2_; have HO_16 := n3_; have HO_114003 := n4_; have HO_114004 := n5_; have HO_114005 := n6_; have BK113 := n7_; have HB := n8_; clear n0_ n1_ n2_ n3_ n4_ n5_ n6_ n7_ n8_; (try clear hb); (try clear hb2); (try clear hk); (try clear hi))); try go_wp2_with (first | (go_at_call 23; (with_reducible refine (impl_Satisfied.calls k4 t101 t102 t103 _ _ t104 _ _ t107 _ _ t110 _ _ t121 t143 t144 _ ?side1 ?side2 ?side3 ?side4 ?side5 ?side6 ?side7 ?side8 A104.out).mono ?_); (case side1 => exact qc_ (Kd.R_reads' HO_114003.out).2.2); (case side2 => exact (Kd.R_reads' HO_114003.out).2.1); (case side3 => exact qc_ (Kd.R_reads' HO_114004.out).2.2); (case side4 => exact (Kd.R_reads' HO_114004.out).2.1); (case side5 => exact qc_ (Kd.R_reads' HO_114005.out).2.2); (case side6 => exact (Kd.R_reads' HO_114005.out).2.1); (case side7 => exact qc_ (Kd.R_reads' HO_8.out).2.2); (case side8 => exact (Kd.R_reads' HO_8.out).2.1); rintro e w112 ⟨rfl, hb⟩; have n0_ := am_ (Kd.R_below qz16_ hb); have n1_ := am_ (Kd.R_below qz39_ hb); have n2_ := am_ (Kd.R_below qz40_ hb); have n3_ := am_ (Kd.R_below qz41_ hb); have n4_ := am_ (Kd.R_below qz34_ hb); have n5_ := am_ (Kd.R_below qz35_ hb); have n6_ := am_ (Kd.R_below qz36_ hb); have n7_ := am_ (blk_below (g := gb113) (o := .cells #[.int .i64 t101, .int .i64 t102, .int .i64 t103, .slice Ao19 t104.length co19, .slice Ao20 t107.length co20, .slice Ao21 t110.length co21] 29 (0, 0)) qz31_ hb); have n8_ := am_ (below_step qz29_ hb); clear HO_8; clear HO_12; clear HO_14; clear HO_16; clear HO_114003; clear HO_114004; clear HO_114005; clear BK113; clear HB; have HO_8 := n0_; have HO_12 := n1_; have HO_14 := n2_; have HO_16 := n3_; have HO_114003 := n4_; have HO_114004 := n5_; have HO_114005 := n6_; have BK113 := n7_; have HB := n8_; clear n0_ n1_ n2_ n3_ n4_ n5_ n6_ n7_ n8_; (try clear hb); (try clear hb2); (try clear hk); (try clear hi); have hcz113_0 : w112.cell? ⟨gb113, 0, none⟩ = some (.int .i64 t101) := (blk_cell BK113.out 0).trans rfl; have hcz113_1 : w112.cell? ⟨gb113, 1, none⟩ = some (.int .i64 t102) := (blk_cell BK113.out 1).trans rfl; have hcz113_2 : w112.cell? ⟨gb113, 2, none⟩ = some (.int .i64 t103) := (blk_cell BK113.out 2).trans rfl; have hcz113_3 : w112.cell? ⟨gb113, 3, none⟩ = some (.slice Ao19 t104.length co19) := (blk_cell BK113.out 3).trans rfl; have hcz113_4 : w112.cell? ⟨gb113, 4, none⟩ = some (.slice Ao20 t107.length co20) := (blk_cell BK113.out 4).trans rfl; have hcz113_5 : w112.cell? ⟨gb113, 5, none⟩ = some (.slice Ao21 t110.length co21) := (blk_cell BK113.out 5).trans rfl; have hfz113_0 := blk_frozen BK113.out 0; have hfz113_1 := blk_frozen BK113.out 1; have hfz113_2 := blk_frozen BK113.out 2; have hfz113_3 := blk_frozen BK113.out 3; have hfz113_4 := blk_frozen BK113.out 4; have hfz113_5 := blk_frozen BK113.out 5) | (go_at_call 25; (with_reducible refine (impl_FailedRow.calls k4 t101 t102 t103 _ _ t104 _ _ t107 _ _ t110 _ _ t121 t145 t146 _ ?side1 ?side2 ?side3 ?side4 ?side5 ?side6 ?side7 ?side8 A105.out).mono ?_); (case side1 => exact qc_ (Kd.R_reads' HO_114003.out).2.2); (case side2 => exact (Kd.R_reads' HO_114003.out).2.1); (case side3 => exact qc_ (Kd.R_reads' HO_114004.out).2.2); (case side4 => exact (Kd.R_reads' HO_114004.out).2.1); (case side5 => exact qc_ (Kd.R_reads' HO_114005.out).2.2); (case side6 => exact (Kd.R_reads' HO_114005.out).2.1); (case side7 => exact qc_ (Kd.R_reads' HO_8.out).2.2); (case side8 => exact (Kd.R_reads' HO_8.out).2.1); rintro e w114 ⟨rfl, hb⟩; have n0_ := am_ (Kd.R_below qz16_ hb); have n1_ := am_ (Kd.R_below qz39_ hb); have n2_ := am_ (Kd.R_below qz40_ hb); have n3_ := am_ (Kd.R_below qz41_ hb); have n4_ := am_ (Kd.R_below qz34_ hb); have n5_ := am_ (Kd.R_below qz35_ hb); have n6_ := am_ (Kd.R_below qz36_ hb); have n7_ := am_ (blk_below (g := gb113) (o := .cells #[.int .i64 t101, .int .i64 t102, .int .i64 t103, .slice Ao19 t104.length co19, .slice Ao20 t107.length co20, .slice Ao21 t110.length co21] 29 (0, 0)) qz31_ hb); have n8_ := am_ (below_step qz29_ hb); clear HO_8; clear HO_12; clear HO_14; clear HO_16; clear HO_114003; clear HO_114004; clear HO_114005; clear BK113; clear HB; have HO_8 := n0_; have HO_12 := n1_; have HO_14 := n2_; have HO_16 := n3_; have HO_114003 := n4_; have HO_114004 := n5_; have HO_114005 := n6_; have BK113 := n7_; have HB := n8_; clear n0_ n1_ n2_ n3_ n4_ n5_ n6_ n7_ n8_; (try clear hb); (try clear hb2); (try clear hk); (try clear hi); have hcz115_0 : w114.cell? ⟨gb113, 0, none⟩ = some (.int .i64 t101) := (blk_cell BK113.out 0).trans rfl; have hcz115_1 : w114.cell? ⟨gb113, 1, none⟩ = some (.int .i64 t102) := (blk_cell BK113.out 1).trans rfl; have hcz115_2 : w114.cell? ⟨gb113, 2, none⟩ = some (.int .i64 t103) := (blk_cell BK113.out 2).trans rfl; have hcz115_3 : w114.cell? ⟨gb113, 3, none⟩ = some (.slice Ao19 t104.length co19) := (blk_cell BK113.out 3).trans rfl; have hcz115_4 : w114.cell? ⟨gb113, 4, none⟩ = some (.slice Ao20 t107.length co20) := (blk_cell BK113.out 4).trans rfl; have hcz115_5 : w114.cell? ⟨gb113, 5, none⟩ = some (.slice Ao21 t110.length co21) := (blk_cell BK113.out 5).trans rfl; have hfz115_0 := blk_frozen BK113.out 0; have hfz115_1 := blk_frozen BK113.out 1; have hfz115_2 := blk_frozen BK113.out 2; have hfz115_3 := blk_frozen BK113.out 3; have hfz115_4 := blk_frozen BK113.out 4; have hfz115_5 := blk_frozen BK113.out 5) | (go_at_call 13; (with_reducible refine (impl_SystemOK.calls k4 t101 t102 t103 _ _ t104 _ _ t107 _ _ t110 t147 _ ?side1 ?side2 ?side3 ?side4 ?side5 ?side6 A110.out).mono ?_); (case side1 => exact qc_ (Kd.R_reads' HO_114003.out).2.2); (case side2 => exact (Kd.R_reads' HO_114003.out).2.1); (case side3 => exact qc_ (Kd.R_reads' HO_114004.out).2.2); (case side4 => exact (Kd.R_reads' HO_114004.out).2.1); (case side5 => exact qc_ (Kd.R_reads' HO_114005.out).2.2); (case side6 => exact (Kd.R_reads' HO_114005.out).2.1); rintro e w116 ⟨rfl, hb⟩; have n0_ := am_ (Kd.R_below qz16_ hb); have n1_ := am_ (Kd.R_below qz39_ hb); have n2_ := am_ (Kd.R_below qz40_ hb); have n3_ := am_ (Kd.R_below qz41_ hb); have n4_ := am_ (Kd.R_below qz34_ hb); have n5_ := am_ (Kd.R_below qz35_ hb); have n6_ := am_ (Kd.R_below qz36_ hb); have n7_ := am_ (blk_below (g := gb113) (o := .cells #[.int .i64 t101, .int .i64 t102, .int .i64 t103, .slice Ao19 t104.length co19, .slice Ao20 t107.length co20, .slice Ao21 t110.length co21] 29 (0, 0)) qz31_ hb); have n8_ := am_ (below_step qz29_ hb); clear HO_8; clear HO_12; clear HO_14; clear HO_16; clear HO_114003; clear HO_114004; clear HO_114005; clear BK113; clear HB; have HO_8 := n0_; have HO_12 := n1_; have HO_14 := n2_; have HO_16 := n3_; have HO_114003 := n4_; have HO_114004 := n5_; have HO_114005 := n6_; have BK113 := n7_; have HB := n8_; clear n0_ n1_ n2_ n3_ n4_ n5_ n6_ n7_ n8_; (try clear hb); (try clear hb2); (try clear hk); (try clear hi))))
                  go_ret
                  exact ⟨(by first | rfl | (simp [errW_none, errW_some] <;> rfl) | (simp only [← hji8, ← hji10]; first | rfl | (simp [errW_none, errW_some] <;> rfl)) | (simp [*, errW_none, errW_some] <;> rfl)), qz29_⟩
                 ·
                  rw [if_neg c109] at H
                  have c109b0 : (t146 == 5) = false := beq_eq_false_iff_ne.mpr c109
                  have c109b1 : (t146 != 5) = true := bne_iff_ne.mpr c109
                  by_cases c117 : x18_4 ≥ 0
                  ·
                   rw [if_pos c117] at H
                   have c117b0 : decide (0 ≤ x18_4) = true := decide_eq_true c117
                   clear c117
                   by_cases c118 : t146 = 0
                   ·
                    rw [if_pos c118] at H
                    have c118b0 : (t146 == 0) = true := beq_iff_eq.mpr c118
                    have c118b1 : (t146 != 0) = false := bne_eq_false_iff_eq.mpr c118
                    clear c118
                    by_cases c119 : t145 = x18_4
                    ·
                     rw [if_pos c119] at H
                     have c119b0 : (t145 == x18_4) = true := beq_iff_eq.mpr c119
                     have c119b1 : (t145 != x18_4) = false := bne_eq_false_iff_eq.mpr c119
                     clear c119
                     replace H := Option.bind_eq_some_iff.mp H
                     obtain ⟨t148, A1200, H⟩ := H
                     replace H : (some t148) = some r := H
                     have A120 := am_ A1200
                     clear A1200
                     obtain rfl := Option.some.inj H
                     have hcz121_0 : wr.cell? ⟨gb113, 0, none⟩ = some (.int .i64 t101) := (blk_cell BK113.out 0).trans rfl
                     have hcz121_1 : wr.cell? ⟨gb113, 1, none⟩ = some (.int .i64 t102) := (blk_cell BK113.out 1).trans rfl
                     have hcz121_2 : wr.cell? ⟨gb113, 2, none⟩ = some (.int .i64 t103) := (blk_cell BK113.out 2).trans rfl
                     have hcz121_3 : wr.cell? ⟨gb113, 3, none⟩ = some (.slice Ao19 t104.length co19) := (blk_cell BK113.out 3).trans rfl
                     have hcz121_4 : wr.cell? ⟨gb113, 4, none⟩ = some (.slice Ao20 t107.length co20) := (blk_cell BK113.out 4).trans rfl
                     have hcz121_5 : wr.cell? ⟨gb113, 5, none⟩ = some (.slice Ao21 t110.length co21) := (blk_cell BK113.out 5).trans rfl
                     have hfz121_0 := blk_frozen BK113.out 0
                     have hfz121_1 := blk_frozen BK113.out 1
                     have hfz121_2 := blk_frozen BK113.out 2
                     have hfz121_3 := blk_frozen BK113.out 3
                     have hfz121_4 := blk_frozen BK113.out 4
                     have hfz121_5 := blk_frozen BK113.out 5
                     go_wp2_with (first | (go_at_call 23; (with_reducible refine (impl_Satisfied.calls k4 t101 t102 t103 _ _ t104 _ _ t107 _ _ t110 _ _ t121 t143 t144 _ ?side1 ?side2 ?side3 ?side4 ?side5 ?side6 ?side7 ?side8 A104.out).mono ?_); (case side1 => exact qc_ (Kd.R_reads' HO_114003.out).2.2); (case side2 => exact (Kd.R_reads' HO_114003.out).2.1); (case side3 => exact qc_ (Kd.R_reads' HO_114004.out).2.2); (case side4 => exact (Kd.R_reads' HO_114004.out).2.1); (case side5 => exact qc_ (Kd.R_reads' HO_114005.out).2.2); (case side6 => exact (Kd.R_reads' HO_114005.out).2.1); (case side7 => exact qc_ (Kd.R_reads' HO_8.out).2.2); (case side8 => exact (Kd.R_reads' HO_8.out).2.1); rintro e w122 ⟨rfl, hb⟩; have n0_ := am_ (Kd.R_below qz16_ hb); have n1_ := am_ (Kd.R_below qz39_ hb); have n2_ := am_ (Kd.R_below qz40_ hb); have n3_ := am_ (Kd.R_below qz41_ hb); have n4_ := am_ (Kd.R_below qz34_ hb); have n5_ := am_ (Kd.R_below qz35_ hb); have n6_ := am_ (Kd.R_below qz36_ hb); have n7_ := am_ (blk_below (g := gb113) (o := .cells #[.int .i64 t101, .int .i64 t102, .int .i64 t103, .slice Ao19 t104.length co19, .slice Ao20 t107.length co20, .slice Ao21 t110.length co21] 29 (0, 0)) qz31_ hb); have n8_ := am_ (below_step qz29_ hb); clear HO_8; clear HO_12; clear HO_14; clear HO_16; clear HO_114003; clear HO_114004; clear HO_114005; clear BK113; clear HB; have HO_8 := n0_; have HO_12 := n1_; have HO_14 := n2_; have HO_16 := n3_; have HO_114003 := n4_; have HO_114004 := n5_; have HO_114005 := n6_; have BK113 := n7_; have HB := n8_; clear n0_ n1_ n2_ n3_ n4_ n5_ n6_ n7_ n8_; (try clear hb); (try clear hb2); (try clear hk); (try clear hi); have hcz123_0 : w122.cell? ⟨gb113, 0, none⟩ = some (.int .i64 t101) := (blk_cell BK113.out 0).trans rfl; have hcz123_1 : w122.cell? ⟨gb113, 1, none⟩ = some (.int .i64 t102) := (blk_cell BK113.out 1).trans rfl; have hcz123_2 : w122.cell? ⟨gb113, 2, none⟩ = some (.int .i64 t103) := (blk_cell BK113.out 2).trans rfl; have hcz123_3 : w122.cell? ⟨gb113, 3, none⟩ = some (.slice Ao19 t104.length co19) := (blk_cell BK113.out 3).trans rfl; have hcz123_4 : w122.cell? ⟨gb113, 4, none⟩ = some (.slice Ao20 t107.length co20) := (blk_cell BK113.out 4).trans rfl; have hcz123_5 : w122.cell? ⟨gb113, 5, none⟩ = some (.slice Ao21 t110.length co21) := (blk_cell BK113.out 5).trans rfl; have hfz123_0 := blk_frozen BK113.out 0; have hfz123_1 := blk_frozen BK113.out 1; have hfz123_2 := blk_frozen BK113.out 2; have hfz123_3 := blk_frozen BK113.out 3; have hfz123_4 := blk_frozen BK113.out 4; have hfz123_5 := blk_frozen BK113.out 5) | (go_at_call 25; (with_reducible refine (impl_FailedRow.calls k4 t101 t102 t103 _ _ t104 _ _ t107 _ _ t110 _ _ t121 t145 t146 _ ?side1 ?side2 ?side3 ?side4 ?side5 ?side6 ?side7 ?side8 A105.out).mono ?_); (case side1 => exact qc_ (Kd.R_reads' HO_114003.out).2.2); (case side2 => exact (Kd.R_reads' HO_114003.out).2.1); (case side3 => exact qc_ (Kd.R_reads' HO_114004.out).2.2); (case side4 => exact (Kd.R_reads' HO_114004.out).2.1); (case side5 => exact qc_ (Kd.R_reads' HO_114005.out).2.2); (case side6 => exact (Kd.R_reads' HO_114005.out).2.1); (case side7 => exact qc_ (Kd.R_reads' HO_8.out).2.2); (case side8 => exact (Kd.R_reads' HO_8.out).2.1); rintro e w124 ⟨rfl, hb⟩; have n0_ := am_ (Kd.R_below qz16_ hb); have n1_ := am_ (Kd.R_below qz39_ hb); have n2_ := am_ (Kd.R_below qz40_ hb); have n3_ := am_ (Kd.R_below qz41_ hb); have n4_ := am_ (Kd.R_below qz34_ hb); have n5_ := am_ (Kd.R_below qz35_ hb); have n6_ := am_ (Kd.R_below qz36_ hb); have n7_ := am_ (blk_below (g := gb113) (o := .cells #[.int .i64 t101, .int .i64 t102, .int .i64 t103, .slice Ao19 t104.length co19, .slice Ao20 t107.length co20, .slice Ao21 t110.length co21] 29 (0, 0)) qz31_ hb); have n8_ := am_ (below_step qz29_ hb); clear HO_8; clear HO_12; clear HO_14; clear HO_16; clear HO_114003; clear HO_114004; clear HO_114005; clear BK113; clear HB; have HO_8 := n0_; have HO_12 := n1_; have HO_14 := n2_; have HO_16 := n3_; have HO_114003 := n4_; have HO_114004 := n5_; have HO_114005 := n6_; have BK113 := n7_; have HB := n8_; clear n0_ n1_ n2_ n3_ n4_ n5_ n6_ n7_ n8_; (try clear hb); (try clear hb2); (try clear hk); (try clear hi); have hcz125_0 : w124.cell? ⟨gb113, 0, none⟩ = some (.int .i64 t101) := (blk_cell BK113.out 0).trans rfl; have hcz125_1 : w124.cell? ⟨gb113, 1, none⟩ = some (.int .i64 t102) := (blk_cell BK113.out 1).trans rfl; have hcz125_2 : w124.cell? ⟨gb113, 2, none⟩ = some (.int .i64 t103) := (blk_cell BK113.out 2).trans rfl; have hcz125_3 : w124.cell? ⟨gb113, 3, none⟩ = some (.slice Ao19 t104.length co19) := (blk_cell BK113.out 3).trans rfl; have hcz125_4 : w124.cell? ⟨gb113, 4, none⟩ = some (.slice Ao20 t107.length co20) := (blk_cell BK113.out 4).trans rfl; have hcz125_5 : w124.cell? ⟨gb113, 5, none⟩ = some (.slice Ao21 t110.length co21) := (blk_cell BK113.out 5).trans rfl; have hfz125_0 := blk_frozen BK113.out 0; have hfz125_1 := blk_frozen BK113.out 1; have hfz125_2 := blk_frozen BK113.out 2; have hfz125_3 := blk_frozen BK113.out 3; have hfz125_4 := blk_frozen BK113.out 4; have hfz125_5 := blk_frozen BK113.out 5) | (go_at_call 13; (with_reducible refine (impl_SystemOK.calls k4 t101 t102 t103 _ _ t104 _ _ t107 _ _ t110 t148 _ ?side1 ?side2 ?side3 ?side4 ?side5 ?side6 A120.out).mono ?_); (case side1 => exact qc_ (Kd.R_reads' HO_114003.out).2.2); (case side2 => exact (Kd.R_reads' HO_114003.out).2.1); (case side3 => exact qc_ (Kd.R_reads' HO_114004.out).2.2); (case side4 => exact (Kd.R_reads' HO_114004.out).2.1); (case side5 => exact qc_ (Kd.R_reads' HO_114005.out).2.2); (case side6 => exact (Kd.R_reads' HO_114005.out).2.1); rintro e w126 ⟨rfl, hb⟩; have n0_ := am_ (Kd.R_below qz16_ hb); have n1_ := am_ (Kd.R_below qz39_ hb); have n2_ := am_ (Kd.R_below qz40_ hb); have n3_ := am_ (Kd.R_below qz41_ hb); have n4_ := am_ (Kd.R_below qz34_ hb); have n5_ := am_ (Kd.R_below qz35_ hb); have n6_ := am_ (Kd.R_below qz36_ hb); have n7_ := am_ (blk_below (g := gb113) (o := .cells #[.int .i64 t101, .int .i64 t102, .int .i64 t103, .slice Ao19 t104.length co19, .slice Ao20 t107.length co20, .slice Ao21 t110.length co21] 29 (0, 0)) qz31_ hb); have n8_ := am_ (below_step qz29_ hb); clear HO_8; clear HO_12; clear HO_14; clear HO_16; clear HO_114003; clear HO_114004; clear HO_114005; clear BK113; clear HB; have HO_8 := n0_; have HO_12 := n1_; have HO_14 := n2_; have HO_16 := n3_; have HO_114003 := n4_; have HO_114004 := n5_; have HO_114005 := n6_; have BK113 := n7_; have HB := n8_; clear n0_ n1_ n2_ n3_ n4_ n5_ n6_ n7_ n8_; (try clear hb); (try clear hb2); (try clear hk); (try clear hi)))
                     repeat (go_quiet (first | (go_at_call 23; (with_reducible refine (impl_Satisfied.calls k4 t101 t102 t103 _ _ t104 _ _ t107 _ _ t110 _ _ t121 t143 t144 _ ?side1 ?side2 ?side3 ?side4 ?side5 ?side6 ?side7 ?side8 A104.out).mono ?_); (case side1 => exact qc_ (Kd.R_reads' HO_114003.out).2.2); (case side2 => exact (Kd.R_reads' HO_114003.out).2.1); (case side3 => exact qc_ (Kd.R_reads' HO_114004.out).2.2); (case side4 => exact (Kd.R_reads' HO_114004.out).2.1); (case side5 => exact qc_ (Kd.R_reads' HO_114005.out).2.2); (case side6 => exact (Kd.R_reads' HO_114005.out).2.1); (case side7 => exact qc_ (Kd.R_reads' HO_8.out).2.2); (case side8 => exact (Kd.R_reads' HO_8.out).2.1); rintro e w122 ⟨rfl, hb⟩; have n0_ := am_ (Kd.R_below qz16_ hb); have n1_ := am_ (Kd.R_below qz39_ hb); have n2_ := am_ (Kd.R_below qz40_ hb); have n3_ := am_ (Kd.R_below qz41_ hb); have n4_ := am_ (Kd.R_below qz34_ hb); have n5_ := am_ (Kd.R_below qz35_ hb); have n6_ := am_ (Kd.R_below qz36_ hb); have n7_ := am_ (blk_below (g := gb113) (o := .cells #[.int .i64 t101, .int .i64 t102, .int .i64 t103, .slice Ao19 t104.length co19, .slice Ao20 t107.length co20, .slice Ao21 t110.length co21] 29 (0, 0)) qz31_ hb); have n8_ := am_ (below_step qz29_ hb); clear HO_8; clear HO_12; clear HO_14; clear HO_16; clear HO_114003; clear HO_114004; clear HO_114005; clear BK113; clear HB; have HO_8 := n0_; have HO_12 := n1_; have HO_14 := n2_; have HO_16 := n3_; have HO_114003 := n4_; have HO_114004 := n5_; have HO_114005 := n6_; have BK113 := n7_; have HB := n8_; clear n0_ n1_ n2_ n3_ n4_ n5_ n6_ n7_ n8_; (try clear hb); (try clear hb2); (try clear hk); (try clear hi); have hcz123_0 : w122.cell? ⟨gb113, 0, none⟩ = some (.int .i64 t101) := (blk_cell BK113.out 0).trans rfl; have hcz123_1 : w122.cell? ⟨gb113, 1, none⟩ = some (.int .i64 t102) := (blk_cell BK113.out 1).trans rfl; have hcz123_2 : w122.cell? ⟨gb113, 2, none⟩ = some (.int .i64 t103) := (blk_cell BK113.out 2).trans rfl; have hcz123_3 : w122.cell? ⟨gb113, 3, none⟩ = some (.slice Ao19 t104.length co19) := (blk_cell BK113.out 3).trans rfl; have hcz123_4 : w122.cell? ⟨gb113, 4, none⟩ = some (.slice Ao20 t107.length co20) := (blk_cell BK113.out 4).trans rfl; have hcz123_5 : w122.cell? ⟨gb113, 5, none⟩ = some (.slice Ao21 t110.length co21) := (blk_cell BK113.out 5).trans rfl; have hfz123_0 := blk_frozen BK113.out 0; have hfz123_1 := blk_frozen BK113.out 1; have hfz123_2 := blk_frozen BK113.out 2; have hfz123_3 := blk_frozen BK113.out 3; have hfz123_4 := blk_frozen BK113.out 4; have hfz123_5 := blk_frozen BK113.out 5) | (go_at_call 25; (with_reducible refine (impl_FailedRow.calls k4 t101 t102 t103 _ _ t104 _ _ t107 _ _ t110 _ _ t121 t145 t146 _ ?side1 ?side2 ?side3 ?side4 ?side5 ?side6 ?side7 ?side8 A105.out).mono ?_); (case side1 => exact qc_ (Kd.R_reads' HO_114003.out).2.2); (case side2 => exact (Kd.R_reads' HO_114003.out).2.1); (case side3 => exact qc_ (Kd.R_reads' HO_114004.out).2.2); (case side4 => exact (Kd.R_reads' HO_114004.out).2.1); (case side5 => exact qc_ (Kd.R_reads' HO_114005.out).2.2); (case side6 => exact (Kd.R_reads' HO_114005.out).2.1); (case side7 => exact qc_ (Kd.R_reads' HO_8.out).2.2); (case side8 => exact (Kd.R_reads' HO_8.out).2.1); rintro e w124 ⟨rfl, hb⟩; have n0_ := am_ (Kd.R_below qz16_ hb); have n1_ := am_ (Kd.R_below qz39_ hb); have n2_ := am_ (Kd.R_below qz40_ hb); have n3_ := am_ (Kd.R_below qz41_ hb); have n4_ := am_ (Kd.R_below qz34_ hb); have n5_ := am_ (Kd.R_below qz35_ hb); have n6_ := am_ (Kd.R_below qz36_ hb); have n7_ := am_ (blk_below (g := gb113) (o := .cells #[.int .i64 t101, .int .i64 t102, .int .i64 t103, .slice Ao19 t104.length co19, .slice Ao20 t107.length co20, .slice Ao21 t110.length co21] 29 (0, 0)) qz31_ hb); have n8_ := am_ (below_step qz29_ hb); clear HO_8; clear HO_12; clear HO_14; clear HO_16; clear HO_114003; clear HO_114004; clear HO_114005; clear BK113; clear HB; have HO_8 := n0_; have HO_12 := n1_; have HO_14 := n2_; have HO_16 := n3_; have HO_114003 := n4_; have HO_114004 := n5_; have HO_114005 := n6_; have BK113 := n7_; have HB := n8_; clear n0_ n1_ n2_ n3_ n4_ n5_ n6_ n7_ n8_; (try clear hb); (try clear hb2); (try clear hk); (try clear hi); have hcz125_0 : w124.cell? ⟨gb113, 0, none⟩ = some (.int .i64 t101) := (blk_cell BK113.out 0).trans rfl; have hcz125_1 : w124.cell? ⟨gb113, 1, none⟩ = some (.int .i64 t102) := (blk_cell BK113.out 1).trans rfl; have hcz125_2 : w124.cell? ⟨gb113, 2, none⟩ = some (.int .i64 t103) := (blk_cell BK113.out 2).trans rfl; have hcz125_3 : w124.cell? ⟨gb113, 3, none⟩ = some (.slice Ao19 t104.length co19) := (blk_cell BK113.out 3).trans rfl; have hcz125_4 : w124.cell? ⟨gb113, 4, none⟩ = some (.slice Ao20 t107.length co20) := (blk_cell BK113.out 4).trans rfl; have hcz125_5 : w124.cell? ⟨gb113, 5, none⟩ = some (.slice Ao21 t110.length co21) := (blk_cell BK113.out 5).trans rfl; have hfz125_0 := blk_frozen BK113.out 0; have hfz125_1 := blk_frozen BK113.out 1; have hfz125_2 := blk_frozen BK113.out 2; have hfz125_3 := blk_frozen BK113.out 3; have hfz125_4 := blk_frozen BK113.out 4; have hfz125_5 := blk_frozen BK113.out 5) | (go_at_call 13; (with_reducible refine (impl_SystemOK.calls k4 t101 t102 t103 _ _ t104 _ _ t107 _ _ t110 t148 _ ?side1 ?side2 ?side3 ?side4 ?side5 ?side6 A120.out).mono ?_); (case side1 => exact qc_ (Kd.R_reads' HO_114003.out).2.2); (case side2 => exact (Kd.R_reads' HO_114003.out).2.1); (case side3 => exact qc_ (Kd.R_reads' HO_114004.out).2.2); (case side4 => exact (Kd.R_reads' HO_114004.out).2.1); (case side5 => exact qc_ (Kd.R_reads' HO_114005.out).2.2); (case side6 => exact (Kd.R_reads' HO_114005.out).2.1); rintro e w126 ⟨rfl, hb⟩; have n0_ := am_ (Kd.R_below qz16_ hb); have n1_ := am_ (Kd.R_below qz39_ hb); have n2_ := am_ (Kd.R_below qz40_ hb); have n3_ := am_ (Kd.R_below qz41_ hb); have n4_ := am_ (Kd.R_below qz34_ hb); have n5_ := am_ (Kd.R_below qz35_ hb); have n6_ := am_ (Kd.R_below qz36_ hb); have n7_ := am_ (blk_below (g := gb113) (o := .cells #[.int .i64 t101, .int .i64 t102, .int .i64 t103, .slice Ao19 t104.length co19, .slice Ao20 t107.length co20, .slice Ao21 t110.length co21] 29 (0, 0)) qz31_ hb); have n8_ := am_ (below_step qz29_ hb); clear HO_8; clear HO_12; clear HO_14; clear HO_16; clear HO_114003; clear HO_114004; clear HO_114005; clear BK113; clear HB; have HO_8 := n0_; have HO_12 := n1_; have HO_14 := n2_; have HO_16 := n3_; have HO_114003 := n4_; have HO_114004 := n5_; have HO_114005 := n6_; have BK113 := n7_; have HB := n8_; clear n0_ n1_ n2_ n3_ n4_ n5_ n6_ n7_ n8_; (try clear hb); (try clear hb2); (try clear hk); (try clear hi))); try go_wp2_with (first | (go_at_call 23; (with_reducible refine (impl_Satisfied.calls k4 t101 t102 t103 _ _ t104 _ _ t107 _ _ t110 _ _ t121 t143 t144 _ ?side1 ?side2 ?side3 ?side4 ?side5 ?side6 ?side7 ?side8 A104.out).mono ?_); (case side1 => exact qc_ (Kd.R_reads' HO_114003.out).2.2); (case side2 => exact (Kd.R_reads' HO_114003.out).2.1); (case side3 => exact qc_ (Kd.R_reads' HO_114004.out).2.2); (case side4 => exact (Kd.R_reads' HO_114004.out).2.1); (case side5 => exact qc_ (Kd.R_reads' HO_114005.out).2.2); (case side6 => exact (Kd.R_reads' HO_114005.out).2.1); (case side7 => exact qc_ (Kd.R_reads' HO_8.out).2.2); (case side8 => exact (Kd.R_reads' HO_8.out).2.1); rintro e w122 ⟨rfl, hb⟩; have n0_ := am_ (Kd.R_below qz16_ hb); have n1_ := am_ (Kd.R_below qz39_ hb); have n2_ := am_ (Kd.R_below qz40_ hb); have n3_ := am_ (Kd.R_below qz41_ hb); have n4_ := am_ (Kd.R_below qz34_ hb); have n5_ := am_ (Kd.R_below qz35_ hb); have n6_ := am_ (Kd.R_below qz36_ hb); have n7_ := am_ (blk_below (g := gb113) (o := .cells #[.int .i64 t101, .int .i64 t102, .int .i64 t103, .slice Ao19 t104.length co19, .slice Ao20 t107.length co20, .slice Ao21 t110.length co21] 29 (0, 0)) qz31_ hb); have n8_ := am_ (below_step qz29_ hb); clear HO_8; clear HO_12; clear HO_14; clear HO_16; clear HO_114003; clear HO_114004; clear HO_114005; clear BK113; clear HB; have HO_8 := n0_; have HO_12 := n1_; have HO_14 := n2_; have HO_16 := n3_; have HO_114003 := n4_; have HO_114004 := n5_; have HO_114005 := n6_; have BK113 := n7_; have HB := n8_; clear n0_ n1_ n2_ n3_ n4_ n5_ n6_ n7_ n8_; (try clear hb); (try clear hb2); (try clear hk); (try clear hi); have hcz123_0 : w122.cell? ⟨gb113, 0, none⟩ = some (.int .i64 t101) := (blk_cell BK113.out 0).trans rfl; have hcz123_1 : w122.cell? ⟨gb113, 1, none⟩ = some (.int .i64 t102) := (blk_cell BK113.out 1).trans rfl; have hcz123_2 : w122.cell? ⟨gb113, 2, none⟩ = some (.int .i64 t103) := (blk_cell BK113.out 2).trans rfl; have hcz123_3 : w122.cell? ⟨gb113, 3, none⟩ = some (.slice Ao19 t104.length co19) := (blk_cell BK113.out 3).trans rfl; have hcz123_4 : w122.cell? ⟨gb113, 4, none⟩ = some (.slice Ao20 t107.length co20) := (blk_cell BK113.out 4).trans rfl; have hcz123_5 : w122.cell? ⟨gb113, 5, none⟩ = some (.slice Ao21 t110.length co21) := (blk_cell BK113.out 5).trans rfl; have hfz123_0 := blk_frozen BK113.out 0; have hfz123_1 := blk_frozen BK113.out 1; have hfz123_2 := blk_frozen BK113.out 2; have hfz123_3 := blk_frozen BK113.out 3; have hfz123_4 := blk_frozen BK113.out 4; have hfz123_5 := blk_frozen BK113.out 5) | (go_at_call 25; (with_reducible refine (impl_FailedRow.calls k4 t101 t102 t103 _ _ t104 _ _ t107 _ _ t110 _ _ t121 t145 t146 _ ?side1 ?side2 ?side3 ?side4 ?side5 ?side6 ?side7 ?side8 A105.out).mono ?_); (case side1 => exact qc_ (Kd.R_reads' HO_114003.out).2.2); (case side2 => exact (Kd.R_reads' HO_114003.out).2.1); (case side3 => exact qc_ (Kd.R_reads' HO_114004.out).2.2); (case side4 => exact (Kd.R_reads' HO_114004.out).2.1); (case side5 => exact qc_ (Kd.R_reads' HO_114005.out).2.2); (case side6 => exact (Kd.R_reads' HO_114005.out).2.1); (case side7 => exact qc_ (Kd.R_reads' HO_8.out).2.2); (case side8 => exact (Kd.R_reads' HO_8.out).2.1); rintro e w124 ⟨rfl, hb⟩; have n0_ := am_ (Kd.R_below qz16_ hb); have n1_ := am_ (Kd.R_below qz39_ hb); have n2_ := am_ (Kd.R_below qz40_ hb); have n3_ := am_ (Kd.R_below qz41_ hb); have n4_ := am_ (Kd.R_below qz34_ hb); have n5_ := am_ (Kd.R_below qz35_ hb); have n6_ := am_ (Kd.R_below qz36_ hb); have n7_ := am_ (blk_below (g := gb113) (o := .cells #[.int .i64 t101, .int .i64 t102, .int .i64 t103, .slice Ao19 t104.length co19, .slice Ao20 t107.length co20, .slice Ao21 t110.length co21] 29 (0, 0)) qz31_ hb); have n8_ := am_ (below_step qz29_ hb); clear HO_8; clear HO_12; clear HO_14; clear HO_16; clear HO_114003; clear HO_114004; clear HO_114005; clear BK113; clear HB; have HO_8 := n0_; have HO_12 := n1_; have HO_14 := n2_; have HO_16 := n3_; have HO_114003 := n4_; have HO_114004 := n5_; have HO_114005 := n6_; have BK113 := n7_; have HB := n8_; clear n0_ n1_ n2_ n3_ n4_ n5_ n6_ n7_ n8_; (try clear hb); (try clear hb2); (try clear hk); (try clear hi); have hcz125_0 : w124.cell? ⟨gb113, 0, none⟩ = some (.int .i64 t101) := (blk_cell BK113.out 0).trans rfl; have hcz125_1 : w124.cell? ⟨gb113, 1, none⟩ = some (.int .i64 t102) := (blk_cell BK113.out 1).trans rfl; have hcz125_2 : w124.cell? ⟨gb113, 2, none⟩ = some (.int .i64 t103) := (blk_cell BK113.out 2).trans rfl; have hcz125_3 : w124.cell? ⟨gb113, 3, none⟩ = some (.slice Ao19 t104.length co19) := (blk_cell BK113.out 3).trans rfl; have hcz125_4 : w124.cell? ⟨gb113, 4, none⟩ = some (.slice Ao20 t107.length co20) := (blk_cell BK113.out 4).trans rfl; have hcz125_5 : w124.cell? ⟨gb113, 5, none⟩ = some (.slice Ao21 t110.length co21) := (blk_cell BK113.out 5).trans rfl; have hfz125_0 := blk_frozen BK113.out 0; have hfz125_1 := blk_frozen BK113.out 1; have hfz125_2 := blk_frozen BK113.out 2; have hfz125_3 := blk_frozen BK113.out 3; have hfz125_4 := blk_frozen BK113.out 4; have hfz125_5 := blk_frozen BK113.out 5) | (go_at_call 13; (with_reducible refine (impl_SystemOK.calls k4 t101 t102 t103 _ _ t104 _ _ t107 _ _ t110 t148 _ ?side1 ?side2 ?side3 ?side4 ?side5 ?side6 A120.out).mono ?_); (case side1 => exact qc_ (Kd.R_reads' HO_114003.out).2.2); (case side2 => exact (Kd.R_reads' HO_114003.out).2.1); (case side3 => exact qc_ (Kd.R_reads' HO_114004.out).2.2); (case side4 => exact (Kd.R_reads' HO_114004.out).2.1); (case side5 => exact qc_ (Kd.R_reads' HO_114005.out).2.2); (case side6 => exact (Kd.R_reads' HO_114005.out).2.1); rintro e w126 ⟨rfl, hb⟩; have n0_ := am_ (Kd.R_below qz16_ hb); have n1_ := am_ (Kd.R_below qz39_ hb); have n2_ := am_ (Kd.R_below qz40_ hb); have n3_ := am_ (Kd.R_below qz41_ hb); have n4_ := am_ (Kd.R_below qz34_ hb); have n5_ := am_ (Kd.R_below qz35_ hb); have n6_ := am_ (Kd.R_below qz36_ hb); have n7_ := am_ (blk_below (g := gb113) (o := .cells #[.int .i64 t101, .int .i64 t102, .int .i64 t103, .slice Ao19 t104.length co19, .slice Ao20 t107.length co20, .slice Ao21 t110.length co21] 29 (0, 0)) qz31_ hb); have n8_ := am_ (below_step qz29_ hb); clear HO_8; clear HO_12; clear HO_14; clear HO_16; clear HO_114003; clear HO_114004; clear HO_114005; clear BK113; clear HB; have HO_8 := n0_; have HO_12 := n1_; have HO_14 := n2_; have HO_16 := n3_; have HO_114003 := n4_; have HO_114004 := n5_; have HO_114005 := n6_; have BK113 := n7_; have HB := n8_; clear n0_ n1_ n2_ n3_ n4_ n5_ n6_ n7_ n8_; (try clear hb); (try clear hb2); (try clear hk); (try clear hi))))
                     go_ret
                     exact ⟨(by first | rfl | (simp [errW_none, errW_some] <;> rfl) | (simp only [← hji8, ← hji10]; first | rfl | (simp [errW_none, errW_some] <;> rfl)) | (simp [*, errW_none, errW_some] <;> rfl)), qz29_⟩
                    ·
                     rw [if_neg c119] at H
                     have c119b0 : (t145 == x18_4) = false := beq_eq_false_iff_ne.mpr c119
                     have c119b1 : (t145 != x18_4) = true := bne_iff_ne.mpr c119
                     exact absurd ((Option.some.inj H).trans hr_) (by decide)
                   ·
                    rw [if_neg c118] at H
                    have c118b0 : (t146 == 0) = false := beq_eq_false_iff_ne.mpr c118
                    have c118b1 : (t146 != 0) = true := bne_iff_ne.mpr c118
                    exact absurd ((Option.some.inj H).trans hr_) (by decide)
                  ·
                   rw [if_neg c117] at H
                   have c117b0 : decide (0 ≤ x18_4) = false := decide_eq_false c117
                   clear c117
                   exact absurd ((Option.some.inj H).trans hr_) (by decide)
                ·
                 rw [if_neg c108] at H
                 have c108b0 : decide (x18_4 < 0) = false := decide_eq_false c108
                 have e143 : t143 = false := by have h_ := c107b0; rw [c108b0] at h_; simpa using h_
                 clear c108
                 by_cases c127 : x18_4 ≥ 0
                 ·
                  rw [if_pos c127] at H
                  have c127b0 : decide (0 ≤ x18_4) = true := decide_eq_true c127
                  clear c127
                  by_cases c128 : t146 = 0
                  ·
                   rw [if_pos c128] at H
                   have c128b0 : (t146 == 0) = true := beq_iff_eq.mpr c128
                   have c128b1 : (t146 != 0) = false := bne_eq_false_iff_eq.mpr c128
                   clear c128
                   by_cases c129 : t145 = x18_4
                   ·
                    rw [if_pos c129] at H
                    have c129b0 : (t145 == x18_4) = true := beq_iff_eq.mpr c129
                    have c129b1 : (t145 != x18_4) = false := bne_eq_false_iff_eq.mpr c129
                    clear c129
                    replace H := Option.bind_eq_some_iff.mp H
                    obtain ⟨t149, A1300, H⟩ := H
                    replace H : (some t149) = some r := H
                    have A130 := am_ A1300
                    clear A1300
                    obtain rfl := Option.some.inj H
                    have hcz131_0 : wr.cell? ⟨gb113, 0, none⟩ = some (.int .i64 t101) := (blk_cell BK113.out 0).trans rfl
                    have hcz131_1 : wr.cell? ⟨gb113, 1, none⟩ = some (.int .i64 t102) := (blk_cell BK113.out 1).trans rfl
                    have hcz131_2 : wr.cell? ⟨gb113, 2, none⟩ = some (.int .i64 t103) := (blk_cell BK113.out 2).trans rfl
                    have hcz131_3 : wr.cell? ⟨gb113, 3, none⟩ = some (.slice Ao19 t104.length co19) := (blk_cell BK113.out 3).trans rfl
                    have hcz131_4 : wr.cell? ⟨gb113, 4, none⟩ = some (.slice Ao20 t107.length co20) := (blk_cell BK113.out 4).trans rfl
                    have hcz131_5 : wr.cell? ⟨gb113, 5, none⟩ = some (.slice Ao21 t110.length co21) := (blk_cell BK113.out 5).trans rfl
                    have hfz131_0 := blk_frozen BK113.out 0
                    have hfz131_1 := blk_frozen BK113.out 1
                    have hfz131_2 := blk_frozen BK113.out 2
                    have hfz131_3 := blk_frozen BK113.out 3
                    have hfz131_4 := blk_frozen BK113.out 4
                    have hfz131_5 := blk_frozen BK113.out 5
                    go_wp2_with (first | (go_at_call 23; (with_reducible refine (impl_Satisfied.calls k4 t101 t102 t103 _ _ t104 _ _ t107 _ _ t110 _ _ t121 t143 t144 _ ?side1 ?side2 ?side3 ?side4 ?side5 ?side6 ?side7 ?side8 A104.out).mono ?_); (case side1 => exact qc_ (Kd.R_reads' HO_114003.out).2.2); (case side2 => exact (Kd.R_reads' HO_114003.out).2.1); (case side3 => exact qc_ (Kd.R_reads' HO_114004.out).2.2); (case side4 => exact (Kd.R_reads' HO_114004.out).2.1); (case side5 => exact qc_ (Kd.R_reads' HO_114005.out).2.2); (case side6 => exact (Kd.R_reads' HO_114005.out).2.1); (case side7 => exact qc_ (Kd.R_reads' HO_8.out).2.2); (case side8 => exact (Kd.R_reads' HO_8.out).2.1); rintro e w132 ⟨rfl, hb⟩; have n0_ := am_ (Kd.R_below qz16_ hb); have n1_ := am_ (Kd.R_below qz39_ hb); have n2_ := am_ (Kd.R_below qz40_ hb); have n3_ := am_ (Kd.R_below qz41_ hb); have n4_ := am_ (Kd.R_below qz34_ hb); have n5_ := am_ (Kd.R_below qz35_ hb); have n6_ := am_ (Kd.R_below qz36_ hb); have n7_ := am_ (blk_below (g := gb113) (o := .cells #[.int .i64 t101, .int .i64 t102, .int .i64 t103, .slice Ao19 t104.length co19, .slice Ao20 t107.length co20, .slice Ao21 t110.length co21] 29 (0, 0)) qz31_ hb); have n8_ := am_ (below_step qz29_ hb); clear HO_8; clear HO_12; clear HO_14; clear HO_16; clear HO_114003; clear HO_114004; clear HO_114005; clear BK113; clear HB; have HO_8 := n0_; have HO_12 := n1_; have HO_14 := n2_; have HO_16 := n3_; have HO_114003 := n4_; have HO_114004 := n5_; have HO_114005 := n6_; have BK113 := n7_; have HB := n8_; clear n0_ n1_ n2_ n3_ n4_ n5_ n6_ n7_ n8_; (try clear hb); (try clear hb2); (try clear hk); (try clear hi); have hcz133_0 : w132.cell? ⟨gb113, 0, none⟩ = some (.int .i64 t101) := (blk_cell BK113.out 0).trans rfl; have hcz133_1 : w132.cell? ⟨gb113, 1, none⟩ = some (.int .i64 t102) := (blk_cell BK113.out 1).trans rfl; have hcz133_2 : w132.cell? ⟨gb113, 2, none⟩ = some (.int .i64 t103) := (blk_cell BK113.out 2).trans rfl; have hcz133_3 : w132.cell? ⟨gb113, 3, none⟩ = some (.slice Ao19 t104.length co19) := (blk_cell BK113.out 3).trans rfl; have hcz133_4 : w132.cell? ⟨gb113, 4, none⟩ = some (.slice Ao20 t107.length co20) := (blk_cell BK113.out 4).trans rfl; have hcz133_5 : w132.cell? ⟨gb113, 5, none⟩ = some (.slice Ao21 t110.length co21) := (blk_cell BK113.out 5).trans rfl; have hfz133_0 := blk_frozen BK113.out 0; have hfz133_1 := blk_frozen BK113.out 1; have hfz133_2 := blk_frozen BK113.out 2; have hfz133_3 := blk_frozen BK113.out 3; have hfz133_4 := blk_frozen BK113.out 4; have hfz133_5 := blk_frozen BK113.out 5) | (go_at_call 25; (with_reducible refine (impl_FailedRow.calls k4 t101 t102 t103 _ _ t104 _ _ t107 _ _ t110 _ _ t121 t145 t146 _ ?side1 ?side2 ?side3 ?side4 ?side5 ?side6 ?side7 ?side8 A105.out).mono ?_); (case side1 => exact qc_ (Kd.R_reads' HO_114003.out).2.2); (case side2 => exact (Kd.R_reads' HO_114003.out).2.1); (case side3 => exact qc_ (Kd.R_reads' HO_114004.out).2.2); (case side4 => exact (Kd.R_reads' HO_114004.out).2.1); (case side5 => exact qc_ (Kd.R_reads' HO_114005.out).2.2); (case side6 => exact (Kd.R_reads' HO_114005.out).2.1); (case side7 => exact qc_ (Kd.R_reads' HO_8.out).2.2); (case side8 => exact (Kd.R_reads' HO_8.out).2.1); rintro e w134 ⟨rfl, hb⟩; have n0_ := am_ (Kd.R_below qz16_ hb); have n1_ := am_ (Kd.R_below qz39_ hb); have n2_ := am_ (Kd.R_below qz40_ hb); have n3_ := am_ (Kd.R_below qz41_ hb); have n4_ := am_ (Kd.R_below qz34_ hb); have n5_ := am_ (Kd.R_below qz35_ hb); have n6_ := am_ (Kd.R_below qz36_ hb); have n7_ := am_ (blk_below (g := gb113) (o := .cells #[.int .i64 t101, .int .i64 t102, .int .i64 t103, .slice Ao19 t104.length co19, .slice Ao20 t107.length co20, .slice Ao21 t110.length co21] 29 (0, 0)) qz31_ hb); have n8_ := am_ (below_step qz29_ hb); clear HO_8; clear HO_12; clear HO_14; clear HO_16; clear HO_114003; clear HO_114004; clear HO_114005; clear BK113; clear HB; have HO_8 := n0_; have HO_12 := n1_; have HO_14 := n2_; have HO_16 := n3_; have HO_114003 := n4_; have HO_114004 := n5_; have HO_114005 := n6_; have BK113 := n7_; have HB := n8_; clear n0_ n1_ n2_ n3_ n4_ n5_ n6_ n7_ n8_; (try clear hb); (try clear hb2); (try clear hk); (try clear hi); have hcz135_0 : w134.cell? ⟨gb113, 0, none⟩ = some (.int .i64 t101) := (blk_cell BK113.out 0).trans rfl; have hcz135_1 : w134.cell? ⟨gb113, 1, none⟩ = some (.int .i64 t102) := (blk_cell BK113.out 1).trans rfl; have hcz135_2 : w134.cell? ⟨gb113, 2, none⟩ = some (.int .i64 t103) := (blk_cell BK113.out 2).trans rfl; have hcz135_3 : w134.cell? ⟨gb113, 3, none⟩ = some (.slice Ao19 t104.length co19) := (blk_cell BK113.out 3).trans rfl; have hcz135_4 : w134.cell? ⟨gb113, 4, none⟩ = some (.slice Ao20 t107.length co20) := (blk_cell BK113.out 4).trans rfl; have hcz135_5 : w134.cell? ⟨gb113, 5, none⟩ = some (.slice Ao21 t110.length co21) := (blk_cell BK113.out 5).trans rfl; have hfz135_0 := blk_frozen BK113.out 0; have hfz135_1 := blk_frozen BK113.out 1; have hfz135_2 := blk_frozen BK113.out 2; have hfz135_3 := blk_frozen BK113.out 3; have hfz135_4 := blk_frozen BK113.out 4; have hfz135_5 := blk_frozen BK113.out 5) | (go_at_call 13; (with_reducible refine (impl_SystemOK.calls k4 t101 t102 t103 _ _ t104 _ _ t107 _ _ t110 t149 _ ?side1 ?side2 ?side3 ?side4 ?side5 ?side6 A130.out).mono ?_); (case side1 => exact qc_ (Kd.R_reads' HO_114003.out).2.2); (case side2 => exact (Kd.R_reads' HO_114003.out).2.1); (case side3 => exact qc_ (Kd.R_reads' HO_114004.out).2.2); (case side4 => exact (Kd.R_reads' HO_114004.out).2.1); (case side5 => exact qc_ (Kd.R_reads' HO_114005.out).2.2); (case side6 => exact (Kd.R_reads' HO_114005.out).2.1); rintro e w136 ⟨rfl, hb⟩; have n0_ := am_ (Kd.R_below qz16_ hb); have n1_ := am_ (Kd.R_below qz39_ hb); have n2_ := am_ (Kd.R_below qz40_ hb); have n3_ := am_ (Kd.R_below qz41_ hb); have n4_ := am_ (Kd.R_below qz34_ hb); have n5_ := am_ (Kd.R_below qz35_ hb); have n6_ := am_ (Kd.R_below qz36_ hb); have n7_ := am_ (blk_below (g := gb113) (o := .cells #[.int .i64 t101, .int .i64 t102, .int .i64 t103, .slice Ao19 t104.length co19, .slice Ao20 t107.length co20, .slice Ao21 t110.length co21] 29 (0, 0)) qz31_ hb); have n8_ := am_ (below_step qz29_ hb); clear HO_8; clear HO_12; clear HO_14; clear HO_16; clear HO_114003; clear HO_114004; clear HO_114005; clear BK113; clear HB; have HO_8 := n0_; have HO_12 := n1_; have HO_14 := n2_; have HO_16 := n3_; have HO_114003 := n4_; have HO_114004 := n5_; have HO_114005 := n6_; have BK113 := n7_; have HB := n8_; clear n0_ n1_ n2_ n3_ n4_ n5_ n6_ n7_ n8_; (try clear hb); (try clear hb2); (try clear hk); (try clear hi)))
                    repeat (go_quiet (first | (go_at_call 23; (with_reducible refine (impl_Satisfied.calls k4 t101 t102 t103 _ _ t104 _ _ t107 _ _ t110 _ _ t121 t143 t144 _ ?side1 ?side2 ?side3 ?side4 ?side5 ?side6 ?side7 ?side8 A104.out).mono ?_); (case side1 => exact qc_ (Kd.R_reads' HO_114003.out).2.2); (case side2 => exact (Kd.R_reads' HO_114003.out).2.1); (case side3 => exact qc_ (Kd.R_reads' HO_114004.out).2.2); (case side4 => exact (Kd.R_reads' HO_114004.out).2.1); (case side5 => exact qc_ (Kd.R_reads' HO_114005.out).2.2); (case side6 => exact (Kd.R_reads' HO_114005.out).2.1); (case side7 => exact qc_ (Kd.R_reads' HO_8.out).2.2); (case side8 => exact (Kd.R_reads' HO_8.out).2.1); rintro e w132 ⟨rfl, hb⟩; have n0_ := am_ (Kd.R_below qz16_ hb); have n1_ := am_ (Kd.R_below qz39_ hb); have n2_ := am_ (Kd.R_below qz40_ hb); have n3_ := am_ (Kd.R_below qz41_ hb); have n4_ := am_ (Kd.R_below qz34_ hb); have n5_ := am_ (Kd.R_below qz35_ hb); have n6_ := am_ (Kd.R_below qz36_ hb); have n7_ := am_ (blk_below (g := gb113) (o := .cells #[.int .i64 t101, .int .i64 t102, .int .i64 t103, .slice Ao19 t104.length co19, .slice Ao20 t107.length co20, .slice Ao21 t110.length co21] 29 (0, 0)) qz31_ hb); have n8_ := am_ (below_step qz29_ hb); clear HO_8; clear HO_12; clear HO_14; clear HO_16; clear HO_114003; clear HO_114004; clear HO_114005; clear BK113; clear HB; have HO_8 := n0_; have HO_12 := n1_; have HO_14 := n2_; have HO_16 := n3_; have HO_114003 := n4_; have HO_114004 := n5_; have HO_114005 := n6_; have BK113 := n7_; have HB := n8_; clear n0_ n1_ n2_ n3_ n4_ n5_ n6_ n7_ n8_; (try clear hb); (try clear hb2); (try clear hk); (try clear hi); have hcz133_0 : w132.cell? ⟨gb113, 0, none⟩ = some (.int .i64 t101) := (blk_cell BK113.out 0).trans rfl; have hcz133_1 : w132.cell? ⟨gb113, 1, none⟩ = some (.int .i64 t102) := (blk_cell BK113.out 1).trans rfl; have hcz133_2 : w132.cell? ⟨gb113, 2, none⟩ = some (.int .i64 t103) := (blk_cell BK113.out 2).trans rfl; have hcz133_3 : w132.cell? ⟨gb113, 3, none⟩ = some (.slice Ao19 t104.length co19) := (blk_cell BK113.out 3).trans rfl; have hcz133_4 : w132.cell? ⟨gb113, 4, none⟩ = some (.slice Ao20 t107.length co20) := (blk_cell BK113.out 4).trans rfl; have hcz133_5 : w132.cell? ⟨gb113, 5, none⟩ = some (.slice Ao21 t110.length co21) := (blk_cell BK113.out 5).trans rfl; have hfz133_0 := blk_frozen BK113.out 0; have hfz133_1 := blk_frozen BK113.out 1; have hfz133_2 := blk_frozen BK113.out 2; have hfz133_3 := blk_frozen BK113.out 3; have hfz133_4 := blk_frozen BK113.out 4; have hfz133_5 := blk_frozen BK113.out 5) | (go_at_call 25; (with_reducible refine (impl_FailedRow.calls k4 t101 t102 t103 _ _ t104 _ _ t107 _ _ t110 _ _ t121 t145 t146 _ ?side1 ?side2 ?side3 ?side4 ?side5 ?side6 ?side7 ?side8 A105.out).mono ?_); (case side1 => exact qc_ (Kd.R_reads' HO_114003.out).2.2); (case side2 => exact (Kd.R_reads' HO_114003.out).2.1); (case side3 => exact qc_ (Kd.R_reads' HO_114004.out).2.2); (case side4 => exact (Kd.R_reads' HO_114004.out).2.1); (case side5 => exact qc_ (Kd.R_reads' HO_114005.out).2.2); (case side6 => exact (Kd.R_reads' HO_114005.out).2.1); (case side7 => exact qc_ (Kd.R_reads' HO_8.out).2.2); (case side8 => exact (Kd.R_reads' HO_8.out).2.1); rintro e w134 ⟨rfl, hb⟩; have n0_ := am_ (Kd.R_below qz16_ hb); have n1_ := am_ (Kd.R_below qz39_ hb); have n2_ := am_ (Kd.R_below qz40_ hb); have n3_ := am_ (Kd.R_below qz41_ hb); have n4_ := am_ (Kd.R_below qz34_ hb); have n5_ := am_ (Kd.R_below qz35_ hb); have n6_ := am_ (Kd.R_below qz36_ hb); have n7_ := am_ (blk_below (g := gb113) (o := .cells #[.int .i64 t101, .int .i64 t102, .int .i64 t103, .slice Ao19 t104.length co19, .slice Ao20 t107.length co20, .slice Ao21 t110.length co21] 29 (0, 0)) qz31_ hb); have n8_ := am_ (below_step qz29_ hb); clear HO_8; clear HO_12; clear HO_14; clear HO_16; clear HO_114003; clear HO_114004; clear HO_114005; clear BK113; clear HB; have HO_8 := n0_; have HO_12 := n1_; have HO_14 := n2_; have HO_16 := n3_; have HO_114003 := n4_; have HO_114004 := n5_; have HO_114005 := n6_; have BK113 := n7_; have HB := n8_; clear n0_ n1_ n2_ n3_ n4_ n5_ n6_ n7_ n8_; (try clear hb); (try clear hb2); (try clear hk); (try clear hi); have hcz135_0 : w134.cell? ⟨gb113, 0, none⟩ = some (.int .i64 t101) := (blk_cell BK113.out 0).trans rfl; have hcz135_1 : w134.cell? ⟨gb113, 1, none⟩ = some (.int .i64 t102) := (blk_cell BK113.out 1).trans rfl; have hcz135_2 : w134.cell? ⟨gb113, 2, none⟩ = some (.int .i64 t103) := (blk_cell BK113.out 2).trans rfl; have hcz135_3 : w134.cell? ⟨gb113, 3, none⟩ = some (.slice Ao19 t104.length co19) := (blk_cell BK113.out 3).trans rfl; have hcz135_4 : w134.cell? ⟨gb113, 4, none⟩ = some (.slice Ao20 t107.length co20) := (blk_cell BK113.out 4).trans rfl; have hcz135_5 : w134.cell? ⟨gb113, 5, none⟩ = some (.slice Ao21 t110.length co21) := (blk_cell BK113.out 5).trans rfl; have hfz135_0 := blk_frozen BK113.out 0; have hfz135_1 := blk_frozen BK113.out 1; have hfz135_2 := blk_frozen BK113.out 2; have hfz135_3 := blk_frozen BK113.out 3; have hfz135_4 := blk_frozen BK113.out 4; have hfz135_5 := blk_frozen BK113.out 5) | (go_at_call 13; (with_reducible refine (impl_SystemOK.calls k4 t101 t102 t103 _ _ t104 _ _ t107 _ _ t110 t149 _ ?side1 ?side2 ?side3 ?side4 ?side5 ?side6 A130.out).mono ?_); (case side1 => exact qc_ (Kd.R_reads' HO_114003.out).2.2); (case side2 => exact (Kd.R_reads' HO_114003.out).2.1); (case side3 => exact qc_ (Kd.R_reads' HO_114004.out).2.2); (case side4 => exact (Kd.R_reads' HO_114004.out).2.1); (case side5 => exact qc_ (Kd.R_reads' HO_114005.out).2.2); (case side6 => exact (Kd.R_reads' HO_114005.out).2.1); rintro e w136 ⟨rfl, hb⟩; have n0_ := am_ (Kd.R_below qz16_ hb); have n1_ := am_ (Kd.R_below qz39_ hb); have n2_ := am_ (Kd.R_below qz40_ hb); have n3_ := am_ (Kd.R_below qz41_ hb); have n4_ := am_ (Kd.R_below qz34_ hb); have n5_ := am_ (Kd.R_below qz35_ hb); have n6_ := am_ (Kd.R_below qz36_ hb); have n7_ := am_ (blk_below (g := gb113) (o := .cells #[.int .i64 t101, .int .i64 t102, .int .i64 t103, .slice Ao19 t104.length co19, .slice Ao20 t107.length co20, .slice Ao21 t110.length co21] 29 (0, 0)) qz31_ hb); have n8_ := am_ (below_step qz29_ hb); clear HO_8; clear HO_12; clear HO_14; clear HO_16; clear HO_114003; clear HO_114004; clear HO_114005; clear BK113; clear HB; have HO_8 := n0_; have HO_12 := n1_; have HO_14 := n2_; have HO_16 := n3_; have HO_114003 := n4_; have HO_114004 := n5_; have HO_114005 := n6_; have BK113 := n7_; have HB := n8_; clear n0_ n1_ n2_ n3_ n4_ n5_ n6_ n7_ n8_; (try clear hb); (try clear hb2); (try clear hk); (try clear hi))); try go_wp2_with (first | (go_at_call 23; (with_reducible refine (impl_Satisfied.calls k4 t101 t102 t103 _ _ t104 _ _ t107 _ _ t110 _ _ t121 t143 t144 _ ?side1 ?side2 ?side3 ?side4 ?side5 ?side6 ?side7 ?side8 A104.out).mono ?_); (case side1 => exact qc_ (Kd.R_reads' HO_114003.out).2.2); (case side2 => exact (Kd.R_reads' HO_114003.out).2.1); (case side3 => exact qc_ (Kd.R_reads' HO_114004.out).2.2); (case side4 => exact (Kd.R_reads' HO_114004.out).2.1); (case side5 => exact qc_ (Kd.R_reads' HO_114005.out).2.2); (case side6 => exact (Kd.R_reads' HO_114005.out).2.1); (case side7 => exact qc_ (Kd.R_reads' HO_8.out).2.2); (case side8 => exact (Kd.R_reads' HO_8.out).2.1); rintro e w132 ⟨rfl, hb⟩; have n0_ := am_ (Kd.R_below qz16_ hb); have n1_ := am_ (Kd.R_below qz39_ hb); have n2_ := am_ (Kd.R_below qz40_ hb); have n3_ := am_ (Kd.R_below qz41_ hb); have n4_ := am_ (Kd.R_below qz34_ hb); have n5_ := am_ (Kd.R_below qz35_ hb); have n6_ := am_ (Kd.R_below qz36_ hb); have n7_ := am_ (blk_below (g := gb113) (o := .cells #[.int .i64 t101, .int .i64 t102, .int .i64 t103, .slice Ao19 t104.length co19, .slice Ao20 t107.length co20, .slice Ao21 t110.length co21] 29 (0, 0)) qz31_ hb); have n8_ := am_ (below_step qz29_ hb); clear HO_8; clear HO_12; clear HO_14; clear HO_16; clear HO_114003; clear HO_114004; clear HO_114005; clear BK113; clear HB; have HO_8 := n0_; have HO_12 := n1_; have HO_14 := n2_; have HO_16 := n3_; have HO_114003 := n4_; have HO_114004 := n5_; have HO_114005 := n6_; have BK113 := n7_; have HB := n8_; clear n0_ n1_ n2_ n3_ n4_ n5_ n6_ n7_ n8_; (try clear hb); (try clear hb2); (try clear hk); (try clear hi); have hcz133_0 : w132.cell? ⟨gb113, 0, none⟩ = some (.int .i64 t101) := (blk_cell BK113.out 0).trans rfl; have hcz133_1 : w132.cell? ⟨gb113, 1, none⟩ = some (.int .i64 t102) := (blk_cell BK113.out 1).trans rfl; have hcz133_2 : w132.cell? ⟨gb113, 2, none⟩ = some (.int .i64 t103) := (blk_cell BK113.out 2).trans rfl; have hcz133_3 : w132.cell? ⟨gb113, 3, none⟩ = some (.slice Ao19 t104.length co19) := (blk_cell BK113.out 3).trans rfl; have hcz133_4 : w132.cell? ⟨gb113, 4, none⟩ = some (.slice Ao20 t107.length co20) := (blk_cell BK113.out 4).trans rfl; have hcz133_5 : w132.cell? ⟨gb113, 5, none⟩ = some (.slice Ao21 t110.length co21) := (blk_cell BK113.out 5).trans rfl; have hfz133_0 := blk_frozen BK113.out 0; have hfz133_1 := blk_frozen BK113.out 1; have hfz133_2 := blk_frozen BK113.out 2; have hfz133_3 := blk_frozen BK113.out 3; have hfz133_4 := blk_frozen BK113.out 4; have hfz133_5 := blk_frozen BK113.out 5) | (go_at_call 25; (with_reducible refine (impl_FailedRow.calls k4 t101 t102 t103 _ _ t104 _ _ t107 _ _ t110 _ _ t121 t145 t146 _ ?side1 ?side2 ?side3 ?side4 ?side5 ?side6 ?side7 ?side8 A105.out).mono ?_); (case side1 => exact qc_ (Kd.R_reads' HO_114003.out).2.2); (case side2 => exact (Kd.R_reads' HO_114003.out).2.1); (case side3 => exact qc_ (Kd.R_reads' HO_114004.out).2.2); (case side4 => exact (Kd.R_reads' HO_114004.out).2.1); (case side5 => exact qc_ (Kd.R_reads' HO_114005.out).2.2); (case side6 => exact (Kd.R_reads' HO_114005.out).2.1); (case side7 => exact qc_ (Kd.R_reads' HO_8.out).2.2); (case side8 => exact (Kd.R_reads' HO_8.out).2.1); rintro e w134 ⟨rfl, hb⟩; have n0_ := am_ (Kd.R_below qz16_ hb); have n1_ := am_ (Kd.R_below qz39_ hb); have n2_ := am_ (Kd.R_below qz40_ hb); have n3_ := am_ (Kd.R_below qz41_ hb); have n4_ := am_ (Kd.R_below qz34_ hb); have n5_ := am_ (Kd.R_below qz35_ hb); have n6_ := am_ (Kd.R_below qz36_ hb); have n7_ := am_ (blk_below (g := gb113) (o := .cells #[.int .i64 t101, .int .i64 t102, .int .i64 t103, .slice Ao19 t104.length co19, .slice Ao20 t107.length co20, .slice Ao21 t110.length co21] 29 (0, 0)) qz31_ hb); have n8_ := am_ (below_step qz29_ hb); clear HO_8; clear HO_12; clear HO_14; clear HO_16; clear HO_114003; clear HO_114004; clear HO_114005; clear BK113; clear HB; have HO_8 := n0_; have HO_12 := n1_; have HO_14 := n2_; have HO_16 := n3_; have HO_114003 := n4_; have HO_114004 := n5_; have HO_114005 := n6_; have BK113 := n7_; have HB := n8_; clear n0_ n1_ n2_ n3_ n4_ n5_ n6_ n7_ n8_; (try clear hb); (try clear hb2); (try clear hk); (try clear hi); have hcz135_0 : w134.cell? ⟨gb113, 0, none⟩ = some (.int .i64 t101) := (blk_cell BK113.out 0).trans rfl; have hcz135_1 : w134.cell? ⟨gb113, 1, none⟩ = some (.int .i64 t102) := (blk_cell BK113.out 1).trans rfl; have hcz135_2 : w134.cell? ⟨gb113, 2, none⟩ = some (.int .i64 t103) := (blk_cell BK113.out 2).trans rfl; have hcz135_3 : w134.cell? ⟨gb113, 3, none⟩ = some (.slice Ao19 t104.length co19) := (blk_cell BK113.out 3).trans rfl; have hcz135_4 : w134.cell? ⟨gb113, 4, none⟩ = some (.slice Ao20 t107.length co20) := (blk_cell BK113.out 4).trans rfl; have hcz135_5 : w134.cell? ⟨gb113, 5, none⟩ = some (.slice Ao21 t110.length co21) := (blk_cell BK113.out 5).trans rfl; have hfz135_0 := blk_frozen BK113.out 0; have hfz135_1 := blk_frozen BK113.out 1; have hfz135_2 := blk_frozen BK113.out 2; have hfz135_3 := blk_frozen BK113.out 3; have hfz135_4 := blk_frozen BK113.out 4; have hfz135_5 := blk_frozen BK113.out 5) | (go_at_call 13; (with_reducible refine (impl_SystemOK.calls k4 t101 t102 t103 _ _ t104 _ _ t107 _ _ t110 t149 _ ?side1 ?side2 ?side3 ?side4 ?side5 ?side6 A130.out).mono ?_); (case side1 => exact qc_ (Kd.R_reads' HO_114003.out).2.2); (case side2 => exact (Kd.R_reads' HO_114003.out).2.1); (case side3 => exact qc_ (Kd.R_reads' HO_114004.out).2.2); (case side4 => exact (Kd.R_reads' HO_114004.out).2.1); (case side5 => exact qc_ (Kd.R_reads' HO_114005.out).2.2); (case side6 => exact (Kd.R_reads' HO_114005.out).2.1); rintro e w136 ⟨rfl, hb⟩; have n0_ := am_ (Kd.R_below qz16_ hb); have n1_ := am_ (Kd.R_below qz39_ hb); have n2_ := am_ (Kd.R_below qz40_ hb); have n3_ := am_ (Kd.R_below qz41_ hb); have n4_ := am_ (Kd.R_below qz34_ hb); have n5_ := am_ (Kd.R_below qz35_ hb); have n6_ := am_ (Kd.R_below qz36_ hb); have n7_ := am_ (blk_below (g := gb113) (o := .cells #[.int .i64 t101, .int .i64 t102, .int .i64 t103, .slice Ao19 t104.length co19, .slice Ao20 t107.length co20, .slice Ao21 t110.length co21] 29 (0, 0)) qz31_ hb); have n8_ := am_ (below_step qz29_ hb); clear HO_8; clear HO_12; clear HO_14; clear HO_16; clear HO_114003; clear HO_114004; clear HO_114005; clear BK113; clear HB; have HO_8 := n0_; have HO_12 := n1_; have HO_14 := n2_; have HO_16 := n3_; have HO_114003 := n4_; have HO_114004 := n5_; have HO_114005 := n6_; have BK113 := n7_; have HB := n8_; clear n0_ n1_ n2_ n3_ n4_ n5_ n6_ n7_ n8_; (try clear hb); (try clear hb2); (try clear hk); (try clear hi))))
                    go_ret
                    exact ⟨(by first | rfl | (simp [errW_none, errW_some] <;> rfl) | (simp only [← hji8, ← hji10]; first | rfl | (simp [errW_none, errW_some] <;> rfl)) | (simp [*, errW_none, errW_some] <;> rfl)), qz29_⟩
                   ·
                    rw [if_neg c129] at H
                    have c129b0 : (t145 == x18_4) = false := beq_eq_false_iff_ne.mpr c129
                    have c129b1 : (t145 != x18_4) = true := bne_iff_ne.mpr c129
                    exact absurd ((Option.some.inj H).trans hr_) (by decide)
                  ·
                   rw [if_neg c128] at H
                   have c128b0 : (t146 == 0) = false := beq_eq_false_iff_ne.mpr c128
                   have c128b1 : (t146 != 0) = true := bne_iff_ne.mpr c128
                   exact absurd ((Option.some.inj H).trans hr_) (by decide)
                 ·
                  rw [if_neg c127] at H
                  have c127b0 : decide (0 ≤ x18_4) = false := decide_eq_false c127
                  clear c127
                  exact absurd ((Option.some.inj H).trans hr_) (by decide)
               ·
                rw [if_neg c107] at H
                have c107b0 : (t143 == (decide (x18_4 < 0))) = false := by simpa using c107
                (try (have c107b1 : decide (t143 = (decide (x18_4 < 0))) = false := by simpa using c107))
                (try (have c107b2 : (t143 == (decide (x18_4 < 0))) = false := by simpa using c107))
                (try (have c107b3 : ¬ (t143 = (decide (x18_4 < 0))) := by simpa using c107))
                clear c107
                exact absurd ((Option.some.inj H).trans hr_) (by decide)
              ·
               rw [if_neg c106] at H
               have c106b0 : (t144 == 0) = false := beq_eq_false_iff_ne.mpr c106
               have c106b1 : (t144 != 0) = true := bne_iff_ne.mpr c106
               exact absurd ((Option.some.inj H).trans hr_) (by decide)
    ·
     rw [if_neg c9] at H
     exact absurd H (by simp)

end Go.Proofs.Ytekijbcblajjbaa.PT
end
