/- Part 1 of the proof of FnExactWitnessOf: what functions compute, shown step by step, and what that says (the claim's last text states the law). -/
import Derived.Test.YtekijbcblajjbaaProg
import Derived.Test.YtekijbcblajjbaaVMore
import Derived.Test.YtekijbcblajjbaaVWords
import Derived.Test.YtekijbcblajjbaaVLast
import Derived.Test.YtekijbcblajjbaaVTab
import Derived.Test.YtekijbcblajjbaaVQPut
import Derived.Test.YtekijbcblajjbaaVApart
import Derived.Test.YtekijbcblajjbaaVArr
import Derived.Test.YtekijbcblajjbaaVZeros
import Derived.Test.YtekijbcblajjbaaVFoot
import Derived.Test.YtekijbcblajjbaaVKept
import Derived.Test.YtekijbcblajjbaaVShare
import Derived.Test.YtekijbcblajjbaaVN
import Derived.Test.YtekijbcblajjbaaVFootNe
import Derived.Test.YtekijbcblajjbaaVAt
import Derived.Test.YtekijbcblajjbaaVRepsOne
import Derived.Test.YtekijbcblajjbaaVGuard
import Derived.Test.YtekijbcblajjbaaVNEv
import Derived.Test.YtekijbcblajjbaaRows
import Derived.JoinedOf
import Derived.WalkKit
import Derived.ProofKit
import Derived.Below
import Derived.Deep.Draws
import Derived.Deep.AppendLies
import Derived.Maps.AppendAt
import Derived.OwnWalk
import Derived.Laws.BytesArg
import Derived.Laws.MakeOwn
import Derived.Laws.OwnMore
import Derived.Deep.OwnRows
import Derived.Tactics
import Derived.Lib.ConvBytes
import Derived.Laws.Slices
import Derived.KernelRfl
import Derived.RowKit3
import Derived.Deep.LoopGhost
import Derived.Deep.QuietTactic
import Derived.BigQuiet
import Derived.WideLaws
import Derived.Deep.DeepCutAuto
import Derived.Deep.CutBlock
import Derived.Deep.RegionHeld3
import Derived.Laws.Rows
import Derived.Lib.AppendStr
import Derived.ArgAppend
import Derived.Laws.IdiomCopy
import Derived.OrdersHeld
import Derived.Laws.BitsLemmas
import Derived.RowKit
import Derived.Lib.BufferMore
import Derived.Lib.SliceRun
import Derived.OpenShut
import Derived.ShutString
import Derived.ChangeOld
import Derived.SizedLaws
import Derived.Deep.Slices
import Derived.ChangeArms
import Derived.Test.YtekijbcblajjbaaZFnExactWitnessOf0
section
namespace Go.Proofs.Ytekijbcblajjbaa.PT
open Go.RowKit Go.Proofs.YtekijbcblajjbaaW.PrintWords Go.Proofs.YtekijbcblajjbaaW.PrintLast Go.Proofs.YtekijbcblajjbaaW.PrintMore
attribute [local go_sem] max2_int min2_int max_two min_two max_three min_three max_four min_four   -- for this text's walks alone
set_option linter.unusedVariables false
set_option linter.unusedSimpArgs false

/-! ### spec_l11Gate: function 105 -/
def spec_l11Gate.j0 : Nat → Bool → Int → Int → Int → Int → Option (Bool)
 | 0, _, _, _, _, _ => none
 | k + 1, x52, x102000, x102001, x102002, x102003 => if x52 = true then (some false) else (if x102000 = 3 then ((spec_FieldOK.f x102003).bind fun t109 => (some t109)) else (some (x102003 == 0)))
def spec_l11Gate.f (k : Nat) (a0_0 : Int) (a0_1 : Int) (a0_2 : Int) (a0_3 : Int) (a1 : Int) : Option (Bool) := (spec_l01In.f a0_0 1 8).bind fun t102 => (if t102 = true then ((spec_l11Uses.f a0_0).bind fun t103 => (if t103 > 0 then ((spec_l01In.f a0_1 0 (wrap64 (a1 - 1))).bind fun t104 => (if t104 = true then (if t103 = 0 then (if a0_1 = 0 then (if t103 > 1 then ((spec_l01In.f a0_2 0 (wrap64 (a1 - 1))).bind fun t105 => (if t105 = true then (if t103 < 2 then (spec_l11Gate.j0 k (a0_2 != 0) a0_0 a0_1 a0_2 a0_3) else (spec_l11Gate.j0 k false a0_0 a0_1 a0_2 a0_3)) else (spec_l11Gate.j0 k true a0_0 a0_1 a0_2 a0_3))) else (if t103 < 2 then (spec_l11Gate.j0 k (a0_2 != 0) a0_0 a0_1 a0_2 a0_3) else (spec_l11Gate.j0 k false a0_0 a0_1 a0_2 a0_3))) else (spec_l11Gate.j0 k true a0_0 a0_1 a0_2 a0_3)) else (if t103 > 1 then ((spec_l01In.f a0_2 0 (wrap64 (a1 - 1))).bind fun t106 => (if t106 = true then (if t103 < 2 then (spec_l11Gate.j0 k (a0_2 != 0) a0_0 a0_1 a0_2 a0_3) else (spec_l11Gate.j0 k false a0_0 a0_1 a0_2 a0_3)) else (spec_l11Gate.j0 k true a0_0 a0_1 a0_2 a0_3))) else (if t103 < 2 then (spec_l11Gate.j0 k (a0_2 != 0) a0_0 a0_1 a0_2 a0_3) else (spec_l11Gate.j0 k false a0_0 a0_1 a0_2 a0_3)))) else (spec_l11Gate.j0 k true a0_0 a0_1 a0_2 a0_3))) else (if t103 = 0 then (if a0_1 = 0 then (if t103 > 1 then ((spec_l01In.f a0_2 0 (wrap64 (a1 - 1))).bind fun t107 => (if t107 = true then (if t103 < 2 then (spec_l11Gate.j0 k (a0_2 != 0) a0_0 a0_1 a0_2 a0_3) else (spec_l11Gate.j0 k false a0_0 a0_1 a0_2 a0_3)) else (spec_l11Gate.j0 k true a0_0 a0_1 a0_2 a0_3))) else (if t103 < 2 then (spec_l11Gate.j0 k (a0_2 != 0) a0_0 a0_1 a0_2 a0_3) else (spec_l11Gate.j0 k false a0_0 a0_1 a0_2 a0_3))) else (spec_l11Gate.j0 k true a0_0 a0_1 a0_2 a0_3)) else (if t103 > 1 then ((spec_l01In.f a0_2 0 (wrap64 (a1 - 1))).bind fun t108 => (if t108 = true then (if t103 < 2 then (spec_l11Gate.j0 k (a0_2 != 0) a0_0 a0_1 a0_2 a0_3) else (spec_l11Gate.j0 k false a0_0 a0_1 a0_2 a0_3)) else (spec_l11Gate.j0 k true a0_0 a0_1 a0_2 a0_3))) else (if t103 < 2 then (spec_l11Gate.j0 k (a0_2 != 0) a0_0 a0_1 a0_2 a0_3) else (spec_l11Gate.j0 k false a0_0 a0_1 a0_2 a0_3)))))) else (some false))
theorem spec_l11Gate.mono_l : ∀ k, (∀ y0 y1 y2 y3 y4, LeO (spec_l11Gate.j0 k y0 y1 y2 y3 y4) (spec_l11Gate.j0 (k + 1) y0 y1 y2 y3 y4))
 | 0 => fun _ _ _ _ _ r h => by simp [spec_l11Gate.j0] at h
 | k + 1 => by
  have ih0 := spec_l11Gate.mono_l k
  ·
   intro y0 y1 y2 y3 y4
   unfold spec_l11Gate.j0
   repeat' first
   | (with_reducible exact ih0 _ _ _ _ _)
   | (with_reducible exact LeO.refl _)
   | (with_reducible exact LeO.none _)
   | (with_reducible refine LeO.ite ?_ ?_)
   | (with_reducible refine LeO.bind ?_ (fun _ => ?_))
   | exact ih0 _ _ _ _ _
   | exact LeO.none _
   | refine LeO.ite ?_ ?_
   | refine LeO.bind ?_ (fun _ => ?_)
theorem spec_l11Gate.mono : ∀ a0 a1 a2 a3 a4 k, LeO (spec_l11Gate.f k a0 a1 a2 a3 a4) (spec_l11Gate.f (k + 1) a0 a1 a2 a3 a4) := by
 intro a0 a1 a2 a3 a4 k
 have ih0 := spec_l11Gate.mono_l k
 unfold spec_l11Gate.f
 repeat' first
   | (with_reducible exact ih0 _ _ _ _ _)
   | (with_reducible exact LeO.refl _)
   | (with_reducible exact LeO.none _)
   | (with_reducible refine LeO.ite ?_ ?_)
   | (with_reducible refine LeO.bind ?_ (fun _ => ?_))
   | exact ih0 _ _ _ _ _
   | exact LeO.none _
   | refine LeO.ite ?_ ?_
   | refine LeO.bind ?_ (fun _ => ?_)
set_option maxHeartbeats 8000000 in
set_option maxRecDepth 100000 in
theorem spec_l11Gate.calls (k : Nat) (a0_0 : Int) (a0_1 : Int) (a0_2 : Int) (a0_3 : Int) (a1 : Int) (r : Bool) (w : World) (h : spec_l11Gate.f k a0_0 a0_1 a0_2 a0_3 a1 = some r) :
  Calls Try.prog 105 #[.agg #[.int .i64 a0_0, .int .i64 a0_1, .int .i64 a0_2, .int .i64 a0_3], .int .i64 a1] w fun e w' => e = .returned (.bool r) ∧ Below w.heap.size w w' := by
 have hu115 := Try.underlying115
 have HB := am_ (Below.refl w.heap.size w)
 have H : ((spec_l01In.f a0_0 1 8).bind fun t102 => (if t102 = true then ((spec_l11Uses.f a0_0).bind fun t103 => (if t103 > 0 then ((spec_l01In.f a0_1 0 (wrap64 (a1 - 1))).bind fun t104 => (if t104 = true then (if t103 = 0 then (if a0_1 = 0 then (if t103 > 1 then ((spec_l01In.f a0_2 0 (wrap64 (a1 - 1))).bind fun t105 => (if t105 = true then (if t103 < 2 then (spec_l11Gate.j0 k (a0_2 != 0) a0_0 a0_1 a0_2 a0_3) else (spec_l11Gate.j0 k false a0_0 a0_1 a0_2 a0_3)) else (spec_l11Gate.j0 k true a0_0 a0_1 a0_2 a0_3))) else (if t103 < 2 then (spec_l11Gate.j0 k (a0_2 != 0) a0_0 a0_1 a0_2 a0_3) else (spec_l11Gate.j0 k false a0_0 a0_1 a0_2 a0_3))) else (spec_l11Gate.j0 k true a0_0 a0_1 a0_2 a0_3)) else (if t103 > 1 then ((spec_l01In.f a0_2 0 (wrap64 (a1 - 1))).bind fun t106 => (if t106 = true then (if t103 < 2 then (spec_l11Gate.j0 k (a0_2 != 0) a0_0 a0_1 a0_2 a0_3) else (spec_l11Gate.j0 k false a0_0 a0_1 a0_2 a0_3)) else (spec_l11Gate.j0 k true a0_0 a0_1 a0_2 a0_3))) else (if t103 < 2 then (spec_l11Gate.j0 k (a0_2 != 0) a0_0 a0_1 a0_2 a0_3) else (spec_l11Gate.j0 k false a0_0 a0_1 a0_2 a0_3)))) else (spec_l11Gate.j0 k true a0_0 a0_1 a0_2 a0_3))) else (if t103 = 0 then (if a0_1 = 0 then (if t103 > 1 then ((spec_l01In.f a0_2 0 (wrap64 (a1 - 1))).bind fun t107 => (if t107 = true then (if t103 < 2 then (spec_l11Gate.j0 k (a0_2 != 0) a0_0 a0_1 a0_2 a0_3) else (spec_l11Gate.j0 k false a0_0 a0_1 a0_2 a0_3)) else (spec_l11Gate.j0 k true a0_0 a0_1 a0_2 a0_3))) else (if t103 < 2 then (spec_l11Gate.j0 k (a0_2 != 0) a0_0 a0_1 a0_2 a0_3) else (spec_l11Gate.j0 k false a0_0 a0_1 a0_2 a0_3))) else (spec_l11Gate.j0 k true a0_0 a0_1 a0_2 a0_3)) else (if t103 > 1 then ((spec_l01In.f a0_2 0 (wrap64 (a1 - 1))).bind fun t108 => (if t108 = true then (if t103 < 2 then (spec_l11Gate.j0 k (a0_2 != 0) a0_0 a0_1 a0_2 a0_3) else (spec_l11Gate.j0 k false a0_0 a0_1 a0_2 a0_3)) else (spec_l11Gate.j0 k true a0_0 a0_1 a0_2 a0_3))) else (if t103 < 2 then (spec_l11Gate.j0 k (a0_2 != 0) a0_0 a0_1 a0_2 a0_3) else (spec_l11Gate.j0 k false a0_0 a0_1 a0_2 a0_3)))))) else (some false))) = some r := h
 clear h
 replace H := Option.bind_eq_some_iff.mp H
 obtain ⟨t102, A30, H⟩ := H
 replace H : (if t102 = true then ((spec_l11Uses.f a0_0).bind fun t103 => (if t103 > 0 then ((spec_l01In.f a0_1 0 (wrap64 (a1 - 1))).bind fun t104 => (if t104 = true then (if t103 = 0 then (if a0_1 = 0 then (if t103 > 1 then ((spec_l01In.f a0_2 0 (wrap64 (a1 - 1))).bind fun t105 => (if t105 = true then (if t103 < 2 then (spec_l11Gate.j0 k (a0_2 != 0) a0_0 a0_1 a0_2 a0_3) else (spec_l11Gate.j0 k false a0_0 a0_1 a0_2 a0_3)) else (spec_l11Gate.j0 k true a0_0 a0_1 a0_2 a0_3))) else (if t103 < 2 then (spec_l11Gate.j0 k (a0_2 != 0) a0_0 a0_1 a0_2 a0_3) else (spec_l11Gate.j0 k false a0_0 a0_1 a0_2 a0_3))) else (spec_l11Gate.j0 k true a0_0 a0_1 a0_2 a0_3)) else (if t103 > 1 then ((spec_l01In.f a0_2 0 (wrap64 (a1 - 1))).bind fun t106 => (if t106 = true then (if t103 < 2 then (spec_l11Gate.j0 k (a0_2 != 0) a0_0 a0_1 a0_2 a0_3) else (spec_l11Gate.j0 k false a0_0 a0_1 a0_2 a0_3)) else (spec_l11Gate.j0 k true a0_0 a0_1 a0_2 a0_3))) else (if t103 < 2 then (spec_l11Gate.j0 k (a0_2 != 0) a0_0 a0_1 a0_2 a0_3) else (spec_l11Gate.j0 k false a0_0 a0_1 a0_2 a0_3)))) else (spec_l11Gate.j0 k true a0_0 a0_1 a0_2 a0_3))) else (if t103 = 0 then (if a0_1 = 0 then (if t103 > 1 then ((spec_l01In.f a0_2 0 (wrap64 (a1 - 1))).bind fun t107 => (if t107 = true then (if t103 < 2 then (spec_l11Gate.j0 k (a0_2 != 0) a0_0 a0_1 a0_2 a0_3) else (spec_l11Gate.j0 k false a0_0 a0_1 a0_2 a0_3)) else (spec_l11Gate.j0 k true a0_0 a0_1 a0_2 a0_3))) else (if t103 < 2 then (spec_l11Gate.j0 k (a0_2 != 0) a0_0 a0_1 a0_2 a0_3) else (spec_l11Gate.j0 k false a0_0 a0_1 a0_2 a0_3))) else (spec_l11Gate.j0 k true a0_0 a0_1 a0_2 a0_3)) else (if t103 > 1 then ((spec_l01In.f a0_2 0 (wrap64 (a1 - 1))).bind fun t108 => (if t108 = true then (if t103 < 2 then (spec_l11Gate.j0 k (a0_2 != 0) a0_0 a0_1 a0_2 a0_3) else (spec_l11Gate.j0 k false a0_0 a0_1 a0_2 a0_3)) else (spec_l11Gate.j0 k true a0_0 a0_1 a0_2 a0_3))) else (if t103 < 2 then (spec_l11Gate.j0 k (a0_2 != 0) a0_0 a0_1 a0_2 a0_3) else (spec_l11Gate.j0 k false a0_0 a0_1 a0_2 a0_3)))))) else (some false)) = some r := H
 have A3 := am_ A30
 clear A30
 by_cases c4 : t102 = true
 ·
  subst c4
  have H1 : ((spec_l11Uses.f a0_0).bind fun t103 => (if t103 > 0 then ((spec_l01In.f a0_1 0 (wrap64 (a1 - 1))).bind fun t104 => (if t104 = true then (if t103 = 0 then (if a0_1 = 0 then (if t103 > 1 then ((spec_l01In.f a0_2 0 (wrap64 (a1 - 1))).bind fun t105 => (if t105 = true then (if t103 < 2 then (spec_l11Gate.j0 k (a0_2 != 0) a0_0 a0_1 a0_2 a0_3) else (spec_l11Gate.j0 k false a0_0 a0_1 a0_2 a0_3)) else (spec_l11Gate.j0 k true a0_0 a0_1 a0_2 a0_3))) else (if t103 < 2 then (spec_l11Gate.j0 k (a0_2 != 0) a0_0 a0_1 a0_2 a0_3) else (spec_l11Gate.j0 k false a0_0 a0_1 a0_2 a0_3))) else (spec_l11Gate.j0 k true a0_0 a0_1 a0_2 a0_3)) else (if t103 > 1 then ((spec_l01In.f a0_2 0 (wrap64 (a1 - 1))).bind fun t106 => (if t106 = true then (if t103 < 2 then (spec_l11Gate.j0 k (a0_2 != 0) a0_0 a0_1 a0_2 a0_3) else (spec_l11Gate.j0 k false a0_0 a0_1 a0_2 a0_3)) else (spec_l11Gate.j0 k true a0_0 a0_1 a0_2 a0_3))) else (if t103 < 2 then (spec_l11Gate.j0 k (a0_2 != 0) a0_0 a0_1 a0_2 a0_3) else (spec_l11Gate.j0 k false a0_0 a0_1 a0_2 a0_3)))) else (spec_l11Gate.j0 k true a0_0 a0_1 a0_2 a0_3))) else (if t103 = 0 then (if a0_1 = 0 then (if t103 > 1 then ((spec_l01In.f a0_2 0 (wrap64 (a1 - 1))).bind fun t107 => (if t107 = true then (if t103 < 2 then (spec_l11Gate.j0 k (a0_2 != 0) a0_0 a0_1 a0_2 a0_3) else (spec_l11Gate.j0 k false a0_0 a0_1 a0_2 a0_3)) else (spec_l11Gate.j0 k true a0_0 a0_1 a0_2 a0_3))) else (if t103 < 2 then (spec_l11Gate.j0 k (a0_2 != 0) a0_0 a0_1 a0_2 a0_3) else (spec_l11Gate.j0 k false a0_0 a0_1 a0_2 a0_3))) else (spec_l11Gate.j0 k true a0_0 a0_1 a0_2 a0_3)) else (if t103 > 1 then ((spec_l01In.f a0_2 0 (wrap64 (a1 - 1))).bind fun t108 => (if t108 = true then (if t103 < 2 then (spec_l11Gate.j0 k (a0_2 != 0) a0_0 a0_1 a0_2 a0_3) else (spec_l11Gate.j0 k false a0_0 a0_1 a0_2 a0_3)) else (spec_l11Gate.j0 k true a0_0 a0_1 a0_2 a0_3))) else (if t103 < 2 then (spec_l11Gate.j0 k (a0_2 != 0) a0_0 a0_1 a0_2 a0_3) else (spec_l11Gate.j0 k false a0_0 a0_1 a0_2 a0_3)))))) = some r := by rw [if_pos rfl] at H; exact H
  clear H
  have H := H1
  clear H1
  replace H := Option.bind_eq_some_iff.mp H
  obtain ⟨t103, A50, H⟩ := H
  replace H : (if t103 > 0 then ((spec_l01In.f a0_1 0 (wrap64 (a1 - 1))).bind fun t104 => (if t104 = true then (if t103 = 0 then (if a0_1 = 0 then (if t103 > 1 then ((spec_l01In.f a0_2 0 (wrap64 (a1 - 1))).bind fun t105 => (if t105 = true then (if t103 < 2 then (spec_l11Gate.j0 k (a0_2 != 0) a0_0 a0_1 a0_2 a0_3) else (spec_l11Gate.j0 k false a0_0 a0_1 a0_2 a0_3)) else (spec_l11Gate.j0 k true a0_0 a0_1 a0_2 a0_3))) else (if t103 < 2 then (spec_l11Gate.j0 k (a0_2 != 0) a0_0 a0_1 a0_2 a0_3) else (spec_l11Gate.j0 k false a0_0 a0_1 a0_2 a0_3))) else (spec_l11Gate.j0 k true a0_0 a0_1 a0_2 a0_3)) else (if t103 > 1 then ((spec_l01In.f a0_2 0 (wrap64 (a1 - 1))).bind fun t106 => (if t106 = true then (if t103 < 2 then (spec_l11Gate.j0 k (a0_2 != 0) a0_0 a0_1 a0_2 a0_3) else (spec_l11Gate.j0 k false a0_0 a0_1 a0_2 a0_3)) else (spec_l11Gate.j0 k true a0_0 a0_1 a0_2 a0_3))) else (if t103 < 2 then (spec_l11Gate.j0 k (a0_2 != 0) a0_0 a0_1 a0_2 a0_3) else (spec_l11Gate.j0 k false a0_0 a0_1 a0_2 a0_3)))) else (spec_l11Gate.j0 k true a0_0 a0_1 a0_2 a0_3))) else (if t103 = 0 then (if a0_1 = 0 then (if t103 > 1 then ((spec_l01In.f a0_2 0 (wrap64 (a1 - 1))).bind fun t107 => (if t107 = true then (if t103 < 2 then (spec_l11Gate.j0 k (a0_2 != 0) a0_0 a0_1 a0_2 a0_3) else (spec_l11Gate.j0 k false a0_0 a0_1 a0_2 a0_3)) else (spec_l11Gate.j0 k true a0_0 a0_1 a0_2 a0_3))) else (if t103 < 2 then (spec_l11Gate.j0 k (a0_2 != 0) a0_0 a0_1 a0_2 a0_3) else (spec_l11Gate.j0 k false a0_0 a0_1 a0_2 a0_3))) else (spec_l11Gate.j0 k true a0_0 a0_1 a0_2 a0_3)) else (if t103 > 1 then ((spec_l01In.f a0_2 0 (wrap64 (a1 - 1))).bind fun t108 => (if t108 = true then (if t103 < 2 then (spec_l11Gate.j0 k (a0_2 != 0) a0_0 a0_1 a0_2 a0_3) else (spec_l11Gate.j0 k false a0_0 a0_1 a0_2 a0_3)) else (spec_l11Gate.j0 k true a0_0 a0_1 a0_2 a0_3))) else (if t103 < 2 then (spec_l11Gate.j0 k (a0_2 != 0) a0_0 a0_1 a0_2 a0_3) else (spec_l11Gate.j0 k false a0_0 a0_1 a0_2 a0_3))))) = some r := H
  have A5 := am_ A50
  clear A50
  have HC6 := am_ H
  clear H
  go_enter Try.func105, Try.ntmps105
  go_upto_region 4 with (first | ((with_reducible refine gate_dst (N := 2) rfl ?_); refine box_event ?hg (N := 2) ?hd (cs := #[.int .i64 a0_0, .int .i64 a0_1, .int .i64 a0_2, .int .i64 a0_3]) (t := 115) ?hr ?_; (case hd => rfl); (case hg => rfl); (case hr => first | (go_simp; done) | (go_simp; rfl)); intro gb101 hg w7 hbox hb; have n0_ := am_ (below_step qz1_ hb); have n1_ := am_ (hbox); have n2_ := am_ ((by rw [hg]; exact (below_size qz1_) : w.heap.size ≤ gb101)); have n3_ := am_ ((by rw [hg]; exact (below_size qz1_) : w.heap.size ≤ gb101)); clear HB; have HB := n0_; have BK101 := n1_; have GW101 := n2_; have GE101 := n3_; clear n0_ n1_ n2_ n3_; clear hb hbox hg; have hcz8_0 : w7.cell? ⟨gb101, 0, none⟩ = some (.int .i64 a0_0) := (blk_cell BK101.out 0).trans rfl; have hcz8_1 : w7.cell? ⟨gb101, 1, none⟩ = some (.int .i64 a0_1) := (blk_cell BK101.out 1).trans rfl; have hcz8_2 : w7.cell? ⟨gb101, 2, none⟩ = some (.int .i64 a0_2) := (blk_cell BK101.out 2).trans rfl; have hcz8_3 : w7.cell? ⟨gb101, 3, none⟩ = some (.int .i64 a0_3) := (blk_cell BK101.out 3).trans rfl; have hfz8_0 := blk_frozen BK101.out 0; have hfz8_1 := blk_frozen BK101.out 1; have hfz8_2 := blk_frozen BK101.out 2; have hfz8_3 := blk_frozen BK101.out 3) | ((with_reducible refine gate_callee (f := 42) rfl ?_); refine goesL_ (some 8) rfl rfl Try.func42 (by kernel_rfl) rfl #[.int .i64 a0_0, .int .i64 1, .int .i64 8] rfl qz9_ ?_; (with_reducible refine (spec_l01In.calls a0_0 1 8 true _ A3.out).mono ?_); rintro e w' ⟨rfl, ⟨nd, rfl⟩⟩; refine ⟨_, rfl, ?_⟩) | ((with_reducible refine gate_callee (f := 109) rfl ?_); refine goesL_ (some 12) rfl rfl Try.func109 (by kernel_rfl) rfl #[.int .i64 a0_0] rfl qz9_ ?_; (with_reducible refine (spec_l11Uses.calls a0_0 t103 _ A5.out).mono ?_); rintro e w' ⟨rfl, ⟨nd, rfl⟩⟩; refine ⟨_, rfl, ?_⟩))
  (try simp only [Act.put, List.setIfInBounds_toArray, List.set_cons_zero, List.set_cons_succ])
  go_cut [52] (fun v52 wc => ∃ (kq : Nat) (x52_5 : Bool), v52 = .bool x52_5 ∧ Aside0 (spec_l11Gate.j0 kq x52_5 a0_0 a0_1 a0_2 a0_3 = some r) ∧ Aside0 (kq ≤ k) ∧ Aside0 (wc.heap[gb101]? = some (.cells #[.int .i64 a0_0, .int .i64 a0_1, .int .i64 a0_2, .int .i64 a0_3] 115 (0, 0))) ∧ Aside0 (Below w.heap.size w wc))
  case first =>
   have H := HC6.out
   clear HC6
   by_cases c9 : t103 > 0
   ·
    rw [if_pos c9] at H
    have c9b0 : decide (0 < t103) = true := decide_eq_true c9
    clear c9
    (first | rw [c9b0] | (simp only [i64_w, i32_w]; rw [c9b0]) | skip)
    replace H := Option.bind_eq_some_iff.mp H
    obtain ⟨t104, A100, H⟩ := H
    replace H : (if t104 = true then (if t103 = 0 then (if a0_1 = 0 then (if t103 > 1 then ((spec_l01In.f a0_2 0 (wrap64 (a1 - 1))).bind fun t105 => (if t105 = true then (if t103 < 2 then (spec_l11Gate.j0 k (a0_2 != 0) a0_0 a0_1 a0_2 a0_3) else (spec_l11Gate.j0 k false a0_0 a0_1 a0_2 a0_3)) else (spec_l11Gate.j0 k true a0_0 a0_1 a0_2 a0_3))) else (if t103 < 2 then (spec_l11Gate.j0 k (a0_2 != 0) a0_0 a0_1 a0_2 a0_3) else (spec_l11Gate.j0 k false a0_0 a0_1 a0_2 a0_3))) else (spec_l11Gate.j0 k true a0_0 a0_1 a0_2 a0_3)) else (if t103 > 1 then ((spec_l01In.f a0_2 0 (wrap64 (a1 - 1))).bind fun t106 => (if t106 = true then (if t103 < 2 then (spec_l11Gate.j0 k (a0_2 != 0) a0_0 a0_1 a0_2 a0_3) else (spec_l11Gate.j0 k false a0_0 a0_1 a0_2 a0_3)) else (spec_l11Gate.j0 k true a0_0 a0_1 a0_2 a0_3))) else (if t103 < 2 then (spec_l11Gate.j0 k (a0_2 != 0) a0_0 a0_1 a0_2 a0_3) else (spec_l11Gate.j0 k false a0_0 a0_1 a0_2 a0_3)))) else (spec_l11Gate.j0 k true a0_0 a0_1 a0_2 a0_3)) = some r := H
    have A10 := am_ A100
    clear A100
    by_cases c11 : t104 = true
    ·
     subst c11
     have H1 : (if t103 = 0 then (if a0_1 = 0 then (if t103 > 1 then ((spec_l01In.f a0_2 0 (wrap64 (a1 - 1))).bind fun t105 => (if t105 = true then (if t103 < 2 then (spec_l11Gate.j0 k (a0_2 != 0) a0_0 a0_1 a0_2 a0_3) else (spec_l11Gate.j0 k false a0_0 a0_1 a0_2 a0_3)) else (spec_l11Gate.j0 k true a0_0 a0_1 a0_2 a0_3))) else (if t103 < 2 then (spec_l11Gate.j0 k (a0_2 != 0) a0_0 a0_1 a0_2 a0_3) else (spec_l11Gate.j0 k false a0_0 a0_1 a0_2 a0_3))) else (spec_l11Gate.j0 k true a0_0 a0_1 a0_2 a0_3)) else (if t103 > 1 then ((spec_l01In.f a0_2 0 (wrap64 (a1 - 1))).bind fun t106 => (if t106 = true then (if t103 < 2 then (spec_l11Gate.j0 k (a0_2 != 0) a0_0 a0_1 a0_2 a0_3) else (spec_l11Gate.j0 k false a0_0 a0_1 a0_2 a0_3)) else (spec_l11Gate.j0 k true a0_0 a0_1 a0_2 a0_3))) else (if t103 < 2 then (spec_l11Gate.j0 k (a0_2 != 0) a0_0 a0_1 a0_2 a0_3) else (spec_l11Gate.j0 k false a0_0 a0_1 a0_2 a0_3)))) = some r := by rw [if_pos rfl] at H; exact H
     clear H
     have H := H1
     clear H1
     by_cases c12 : t103 = 0
     ·
      rw [if_pos c12] at H
      have c12b0 : (t103 == 0) = true := beq_iff_eq.mpr c12
      have c12b1 : (t103 != 0) = false := bne_eq_false_iff_eq.mpr c12
      clear c12
      by_cases c13 : a0_1 = 0
      ·
       rw [if_pos c13] at H
       have c13b0 : (a0_1 == 0) = true := beq_iff_eq.mpr c13
       have c13b1 : (a0_1 != 0) = false := bne_eq_false_iff_eq.mpr c13
       clear c13
       by_cases c14 : t103 > 1
       ·
        rw [if_pos c14] at H
        have c14b0 : decide (1 < t103) = true := decide_eq_true c14
        clear c14
        replace H := Option.bind_eq_some_iff.mp H
        obtain ⟨t105, A150, H⟩ := H
        replace H : (if t105 = true then (if t103 < 2 then (spec_l11Gate.j0 k (a0_2 != 0) a0_0 a0_1 a0_2 a0_3) else (spec_l11Gate.j0 k false a0_0 a0_1 a0_2 a0_3)) else (spec_l11Gate.j0 k true a0_0 a0_1 a0_2 a0_3)) = some r := H
        have A15 := am_ A150
        clear A150
        by_cases c16 : t105 = true
        ·
         subst c16
         have H1 : (if t103 < 2 then (spec_l11Gate.j0 k (a0_2 != 0) a0_0 a0_1 a0_2 a0_3) else (spec_l11Gate.j0 k false a0_0 a0_1 a0_2 a0_3)) = some r := by rw [if_pos rfl] at H; exact H
         clear H
         have H := H1
         clear H1
         by_cases c17 : t103 < 2
         ·
          rw [if_pos c17] at H
          have c17b0 : decide (t103 < 2) = true := decide_eq_true c17
          clear c17
          have H' := am_ H
          clear H
          have hcz18_0 : w7.cell? ⟨gb101, 0, none⟩ = some (.int .i64 a0_0) := (blk_cell BK101.out 0).trans rfl
          have hcz18_1 : w7.cell? ⟨gb101, 1, none⟩ = some (.int .i64 a0_1) := (blk_cell BK101.out 1).trans rfl
          have hcz18_2 : w7.cell? ⟨gb101, 2, none⟩ = some (.int .i64 a0_2) := (blk_cell BK101.out 2).trans rfl
          have hcz18_3 : w7.cell? ⟨gb101, 3, none⟩ = some (.int .i64 a0_3) := (blk_cell BK101.out 3).trans rfl
          have hfz18_0 := blk_frozen BK101.out 0
          have hfz18_1 := blk_frozen BK101.out 1
          have hfz18_2 := blk_frozen BK101.out 2
          have hfz18_3 := blk_frozen BK101.out 3
          go_wp2_with (first | (go_at_call 42; (with_reducible refine (spec_l01In.calls a0_1 0 (wrap64 (a1 - 1)) true _ A10.out).mono ?_); rintro e w' ⟨rfl, ⟨nd, rfl⟩⟩) | (go_at_call 42; (with_reducible refine (spec_l01In.calls a0_2 0 (wrap64 (a1 - 1)) true _ A15.out).mono ?_); rintro e w' ⟨rfl, ⟨nd, rfl⟩⟩))
          go_meet
          case rel => exact ⟨_, ((a0_2 != 0)), qz2_, H', ⟨qz14_⟩, ⟨qz11_⟩, ⟨qz10_⟩⟩
         ·
          rw [if_neg c17] at H
          have c17b0 : decide (t103 < 2) = false := decide_eq_false c17
          clear c17
          have H' := am_ H
          clear H
          have hcz19_0 : w7.cell? ⟨gb101, 0, none⟩ = some (.int .i64 a0_0) := (blk_cell BK101.out 0).trans rfl
          have hcz19_1 : w7.cell? ⟨gb101, 1, none⟩ = some (.int .i64 a0_1) := (blk_cell BK101.out 1).trans rfl
          have hcz19_2 : w7.cell? ⟨gb101, 2, none⟩ = some (.int .i64 a0_2) := (blk_cell BK101.out 2).trans rfl
          have hcz19_3 : w7.cell? ⟨gb101, 3, none⟩ = some (.int .i64 a0_3) := (blk_cell BK101.out 3).trans rfl
          have hfz19_0 := blk_frozen BK101.out 0
          have hfz19_1 := blk_frozen BK101.out 1
          have hfz19_2 := blk_frozen BK101.out 2
          have hfz19_3 := blk_frozen BK101.out 3
          go_wp2_with (first | (go_at_call 42; (with_reducible refine (spec_l01In.calls a0_1 0 (wrap64 (a1 - 1)) true _ A10.out).mono ?_); rintro e w' ⟨rfl, ⟨nd, rfl⟩⟩) | (go_at_call 42; (with_reducible refine (spec_l01In.calls a0_2 0 (wrap64 (a1 - 1)) true _ A15.out).mono ?_); rintro e w' ⟨rfl, ⟨nd, rfl⟩⟩))
          go_meet
          case rel => exact ⟨_, (false), qz2_, H', ⟨qz14_⟩, ⟨qz11_⟩, ⟨qz10_⟩⟩
        ·
         replace c16 := Bool.eq_false_iff.mpr c16
         subst c16
         have H1 : (spec_l11Gate.j0 k true a0_0 a0_1 a0_2 a0_3) = some r := by rw [if_neg (show ¬ (false = true) by decide)] at H; exact H
         clear H
         have H := H1
         clear H1
         have H' := am_ H
         clear H
         have hcz20_0 : w7.cell? ⟨gb101, 0, none⟩ = some (.int .i64 a0_0) := (blk_cell BK101.out 0).trans rfl
         have hcz20_1 : w7.cell? ⟨gb101, 1, none⟩ = some (.int .i64 a0_1) := (blk_cell BK101.out 1).trans rfl
         have hcz20_2 : w7.cell? ⟨gb101, 2, none⟩ = some (.int .i64 a0_2) := (blk_cell BK101.out 2).trans rfl
         have hcz20_3 : w7.cell? ⟨gb101, 3, none⟩ = some (.int .i64 a0_3) := (blk_cell BK101.out 3).trans rfl
         have hfz20_0 := blk_frozen BK101.out 0
         have hfz20_1 := blk_frozen BK101.out 1
         have hfz20_2 := blk_frozen BK101.out 2
         have hfz20_3 := blk_frozen BK101.out 3
         go_wp2_with (first | (go_at_call 42; (with_reducible refine (spec_l01In.calls a0_1 0 (wrap64 (a1 - 1)) true _ A10.out).mono ?_); rintro e w' ⟨rfl, ⟨nd, rfl⟩⟩) | (go_at_call 42; (with_reducible refine (spec_l01In.calls a0_2 0 (wrap64 (a1 - 1)) false _ A15.out).mono ?_); rintro e w' ⟨rfl, ⟨nd, rfl⟩⟩))
         go_meet
         case rel => exact ⟨_, (true), qz2_, H', ⟨qz14_⟩, ⟨qz11_⟩, ⟨qz10_⟩⟩
       ·
        rw [if_neg c14] at H
        have c14b0 : decide (1 < t103) = false := decide_eq_false c14
        clear c14
        by_cases c21 : t103 < 2
        ·
         rw [if_pos c21] at H
         have c21b0 : decide (t103 < 2) = true := decide_eq_true c21
         clear c21
         have H' := am_ H
         clear H
         have hcz22_0 : w7.cell? ⟨gb101, 0, none⟩ = some (.int .i64 a0_0) := (blk_cell BK101.out 0).trans rfl
         have hcz22_1 : w7.cell? ⟨gb101, 1, none⟩ = some (.int .i64 a0_1) := (blk_cell BK101.out 1).trans rfl
         have hcz22_2 : w7.cell? ⟨gb101, 2, none⟩ = some (.int .i64 a0_2) := (blk_cell BK101.out 2).trans rfl
         have hcz22_3 : w7.cell? ⟨gb101, 3, none⟩ = some (.int .i64 a0_3) := (blk_cell BK101.out 3).trans rfl
         have hfz22_0 := blk_frozen BK101.out 0
         have hfz22_1 := blk_frozen BK101.out 1
         have hfz22_2 := blk_frozen BK101.out 2
         have hfz22_3 := blk_frozen BK101.out 3
         go_wp2_with (first | (go_at_call 42; (with_reducible refine (spec_l01In.calls a0_1 0 (wrap64 (a1 - 1)) true _ A10.out).mono ?_); rintro e w' ⟨rfl, ⟨nd, rfl⟩⟩))
         go_meet
         case rel => exact ⟨_, ((a0_2 != 0)), qz2_, H', ⟨qz14_⟩, ⟨qz11_⟩, ⟨qz10_⟩⟩
        ·
         rw [if_neg c21] at H
         have c21b0 : decide (t103 < 2) = false := decide_eq_false c21
         clear c21
         have H' := am_ H
         clear H
         have hcz23_0 : w7.cell? ⟨gb101, 0, none⟩ = some (.int .i64 a0_0) := (blk_cell BK101.out 0).trans rfl
         have hcz23_1 : w7.cell? ⟨gb101, 1, none⟩ = some (.int .i64 a0_1) := (blk_cell BK101.out 1).trans rfl
         have hcz23_2 : w7.cell? ⟨gb101, 2, none⟩ = some (.int .i64 a0_2) := (blk_cell BK101.out 2).trans rfl
         have hcz23_3 : w7.cell? ⟨gb101, 3, none⟩ = some (.int .i64 a0_3) := (blk_cell BK101.out 3).trans rfl
         have hfz23_0 := blk_frozen BK101.out 0
         have hfz23_1 := blk_frozen BK101.out 1
         have hfz23_2 := blk_frozen BK101.out 2
         have hfz23_3 := blk_frozen BK101.out 3
         go_wp2_with (first | (go_at_call 42; (with_reducible refine (spec_l01In.calls a0_1 0 (wrap64 (a1 - 1)) true _ A10.out).mono ?_); rintro e w' ⟨rfl, ⟨nd, rfl⟩⟩))
         go_meet
         case rel => exact ⟨_, (false), qz2_, H', ⟨qz14_⟩, ⟨qz11_⟩, ⟨qz10_⟩⟩
      ·
       rw [if_neg c13] at H
       have c13b0 : (a0_1 == 0) = false := beq_eq_false_iff_ne.mpr c13
       have c13b1 : (a0_1 != 0) = true := bne_iff_ne.mpr c13
       have H' := am_ H
       clear H
       have hcz24_0 : w7.cell? ⟨gb101, 0, none⟩ = some (.int .i64 a0_0) := (blk_cell BK101.out 0).trans rfl
       have hcz24_1 : w7.cell? ⟨gb101, 1, none⟩ = some (.int .i64 a0_1) := (blk_cell BK101.out 1).trans rfl
       have hcz24_2 : w7.cell? ⟨gb101, 2, none⟩ = some (.int .i64 a0_2) := (blk_cell BK101.out 2).trans rfl
       have hcz24_3 : w7.cell? ⟨gb101, 3, none⟩ = some (.int .i64 a0_3) := (blk_cell BK101.out 3).trans rfl
       have hfz24_0 := blk_frozen BK101.out 0
       have hfz24_1 := blk_frozen BK101.out 1
       have hfz24_2 := blk_frozen BK101.out 2
       have hfz24_3 := blk_frozen BK101.out 3
       go_wp2_with (first | (go_at_call 42; (with_reducible refine (spec_l01In.calls a0_1 0 (wrap64 (a1 - 1)) true _ A10.out).mono ?_); rintro e w' ⟨rfl, ⟨nd, rfl⟩⟩))
       go_meet
       case rel => exact ⟨_, (true), qz2_, H', ⟨qz14_⟩, ⟨qz11_⟩, ⟨qz10_⟩⟩
     ·
      rw [if_neg c12] at H
      have c12b0 : (t103 == 0) = false := beq_eq_false_iff_ne.mpr c12
      have c12b1 : (t103 != 0) = true := bne_iff_ne.mpr c12
      by_cases c25 : t103 > 1
      ·
       rw [if_pos c25] at H
       have c25b0 : decide (1 < t103) = true := decide_eq_true c25
       clear c25
       replace H := Option.bind_eq_some_iff.mp H
       obtain ⟨t106, A260, H⟩ := H
       replace H : (if t106 = true then (if t103 < 2 then (spec_l11Gate.j0 k (a0_2 != 0) a0_0 a0_1 a0_2 a0_3) else (spec_l11Gate.j0 k false a0_0 a0_1 a0_2 a0_3)) else (spec_l11Gate.j0 k true a0_0 a0_1 a0_2 a0_3)) = some r := H
       have A26 := am_ A260
       clear A260
       by_cases c27 : t106 = true
       ·
        subst c27
        have H1 : (if t103 < 2 then (spec_l11Gate.j0 k (a0_2 != 0) a0_0 a0_1 a0_2 a0_3) else (spec_l11Gate.j0 k false a0_0 a0_1 a0_2 a0_3)) = some r := by rw [if_pos rfl] at H; exact H
        clear H
        have H := H1
        clear H1
        by_cases c28 : t103 < 2
        ·
         rw [if_pos c28] at H
         have c28b0 : decide (t103 < 2) = true := decide_eq_true c28
         clear c28
         have H' := am_ H
         clear H
         have hcz29_0 : w7.cell? ⟨gb101, 0, none⟩ = some (.int .i64 a0_0) := (blk_cell BK101.out 0).trans rfl
         have hcz29_1 : w7.cell? ⟨gb101, 1, none⟩ = some (.int .i64 a0_1) := (blk_cell BK101.out 1).trans rfl
         have hcz29_2 : w7.cell? ⟨gb101, 2, none⟩ = some (.int .i64 a0_2) := (blk_cell BK101.out 2).trans rfl
         have hcz29_3 : w7.cell? ⟨gb101, 3, none⟩ = some (.int .i64 a0_3) := (blk_cell BK101.out 3).trans rfl
         have hfz29_0 := blk_frozen BK101.out 0
         have hfz29_1 := blk_frozen BK101.out 1
         have hfz29_2 := blk_frozen BK101.out 2
         have hfz29_3 := blk_frozen BK101.out 3
         go_wp2_with (first | (go_at_call 42; (with_reducible refine (spec_l01In.calls a0_1 0 (wrap64 (a1 - 1)) true _ A10.out).mono ?_); rintro e w' ⟨rfl, ⟨nd, rfl⟩⟩) | (go_at_call 42; (with_reducible refine (spec_l01In.calls a0_2 0 (wrap64 (a1 - 1)) true _ A26.out).mono ?_); rintro e w' ⟨rfl, ⟨nd, rfl⟩⟩))
         go_meet
         case rel => exact ⟨_, ((a0_2 != 0)), qz2_, H', ⟨qz14_⟩, ⟨qz11_⟩, ⟨qz10_⟩⟩
        ·
         rw [if_neg c28] at H
         have c28b0 : decide (t103 < 2) = false := decide_eq_false c28
         clear c28
         have H' := am_ H
         clear H
         have hcz30_0 : w7.cell? ⟨gb101, 0, none⟩ = some (.int .i64 a0_0) := (blk_cell BK101.out 0).trans rfl
         have hcz30_1 : w7.cell? ⟨gb101, 1, none⟩ = some (.int .i64 a0_1) := (blk_cell BK101.out 1).trans rfl
         have hcz30_2 : w7.cell? ⟨gb101, 2, none⟩ = some (.int .i64 a0_2) := (blk_cell BK101.out 2).trans rfl
         have hcz30_3 : w7.cell? ⟨gb101, 3, none⟩ = some (.int .i64 a0_3) := (blk_cell BK101.out 3).trans rfl
         have hfz30_0 := blk_frozen BK101.out 0
         have hfz30_1 := blk_frozen BK101.out 1
         have hfz30_2 := blk_frozen BK101.out 2
         have hfz30_3 := blk_frozen BK101.out 3
         go_wp2_with (first | (go_at_call 42; (with_reducible refine (spec_l01In.calls a0_1 0 (wrap64 (a1 - 1)) true _ A10.out).mono ?_); rintro e w' ⟨rfl, ⟨nd, rfl⟩⟩) | (go_at_call 42; (with_reducible refine (spec_l01In.calls a0_2 0 (wrap64 (a1 - 1)) true _ A26.out).mono ?_); rintro e w' ⟨rfl, ⟨nd, rfl⟩⟩))
         go_meet
         case rel => exact ⟨_, (false), qz2_, H', ⟨qz14_⟩, ⟨qz11_⟩, ⟨qz10_⟩⟩
       ·
        replace c27 := Bool.eq_false_iff.mpr c27
        subst c27
        have H1 : (spec_l11Gate.j0 k true a0_0 a0_1 a0_2 a0_3) = some r := by rw [if_neg (show ¬ (false = true) by decide)] at H; exact H
        clear H
        have H := H1
        clear H1
        have H' := am_ H
        clear H
        have hcz31_0 : w7.cell? ⟨gb101, 0, none⟩ = some (.int .i64 a0_0) := (blk_cell BK101.out 0).trans rfl
        have hcz31_1 : w7.cell? ⟨gb101, 1, none⟩ = some (.int .i64 a0_1) := (blk_cell BK101.out 1).trans rfl
        have hcz31_2 : w7.cell? ⟨gb101, 2, none⟩ = some (.int .i64 a0_2) := (blk_cell BK101.out 2).trans rfl
        have hcz31_3 : w7.cell? ⟨gb101, 3, none⟩ = some (.int .i64 a0_3) := (blk_cell BK101.out 3).trans rfl
        have hfz31_0 := blk_frozen BK101.out 0
        have hfz31_1 := blk_frozen BK101.out 1
        have hfz31_2 := blk_frozen BK101.out 2
        have hfz31_3 := blk_frozen BK101.out 3
        go_wp2_with (first | (go_at_call 42; (with_reducible refine (spec_l01In.calls a0_1 0 (wrap64 (a1 - 1)) true _ A10.out).mono ?_); rintro e w' ⟨rfl, ⟨nd, rfl⟩⟩) | (go_at_call 42; (with_reducible refine (spec_l01In.calls a0_2 0 (wrap64 (a1 - 1)) false _ A26.out).mono ?_); rintro e w' ⟨rfl, ⟨nd, rfl⟩⟩))
        go_meet
        case rel => exact ⟨_, (true), qz2_, H', ⟨qz14_⟩, ⟨qz11_⟩, ⟨qz10_⟩⟩
      ·
       rw [if_neg c25] at H
       have c25b0 : decide (1 < t103) = false := decide_eq_false c25
       clear c25
       by_cases c32 : t103 < 2
       ·
        rw [if_pos c32] at H
        have c32b0 : decide (t103 < 2) = true := decide_eq_true c32
        clear c32
        have H' := am_ H
        clear H
        have hcz33_0 : w7.cell? ⟨gb101, 0, none⟩ = some (.int .i64 a0_0) := (blk_cell BK101.out 0).trans rfl
        have hcz33_1 : w7.cell? ⟨gb101, 1, none⟩ = some (.int .i64 a0_1) := (blk_cell BK101.out 1).trans rfl
        have hcz33_2 : w7.cell? ⟨gb101, 2, none⟩ = some (.int .i64 a0_2) := (blk_cell BK101.out 2).trans rfl
        have hcz33_3 : w7.cell? ⟨gb101, 3, none⟩ = some (.int .i64 a0_3) := (blk_cell BK101.out 3).trans rfl
        have hfz33_0 := blk_frozen BK101.out 0
        have hfz33_1 := blk_frozen BK101.out 1
        have hfz33_2 := blk_frozen BK101.out 2
        have hfz33_3 := blk_frozen BK101.out 3
        go_wp2_with (first | (go_at_call 42; (with_reducible refine (spec_l01In.calls a0_1 0 (wrap64 (a1 - 1)) true _ A10.out).mono ?_); rintro e w' ⟨rfl, ⟨nd, rfl⟩⟩))
        go_meet
        case rel => exact ⟨_, ((a0_2 != 0)), qz2_, H', ⟨qz14_⟩, ⟨qz11_⟩, ⟨qz10_⟩⟩
       ·
        rw [if_neg c32] at H
        have c32b0 : decide (t103 < 2) = false := decide_eq_false c32
        clear c32
        have H' := am_ H
        clear H
        have hcz34_0 : w7.cell? ⟨gb101, 0, none⟩ = some (.int .i64 a0_0) := (blk_cell BK101.out 0).trans rfl
        have hcz34_1 : w7.cell? ⟨gb101, 1, none⟩ = some (.int .i64 a0_1) := (blk_cell BK101.out 1).trans rfl
        have hcz34_2 : w7.cell? ⟨gb101, 2, none⟩ = some (.int .i64 a0_2) := (blk_cell BK101.out 2).trans rfl
        have hcz34_3 : w7.cell? ⟨gb101, 3, none⟩ = some (.int .i64 a0_3) := (blk_cell BK101.out 3).trans rfl
        have hfz34_0 := blk_frozen BK101.out 0
        have hfz34_1 := blk_frozen BK101.out 1
        have hfz34_2 := blk_frozen BK101.out 2
        have hfz34_3 := blk_frozen BK101.out 3
        go_wp2_with (first | (go_at_call 42; (with_reducible refine (spec_l01In.calls a0_1 0 (wrap64 (a1 - 1)) true _ A10.out).mono ?_); rintro e w' ⟨rfl, ⟨nd, rfl⟩⟩))
        go_meet
        case rel => exact ⟨_, (false), qz2_, H', ⟨qz14_⟩, ⟨qz11_⟩, ⟨qz10_⟩⟩
    ·
     replace c11 := Bool.eq_false_iff.mpr c11
     subst c11
     have H1 : (spec_l11Gate.j0 k true a0_0 a0_1 a0_2 a0_3) = some r := by rw [if_neg (show ¬ (false = true) by decide)] at H; exact H
     clear H
     have H := H1
     clear H1
     have H' := am_ H
     clear H
     have hcz35_0 : w7.cell? ⟨gb101, 0, none⟩ = some (.int .i64 a0_0) := (blk_cell BK101.out 0).trans rfl
     have hcz35_1 : w7.cell? ⟨gb101, 1, none⟩ = some (.int .i64 a0_1) := (blk_cell BK101.out 1).trans rfl
     have hcz35_2 : w7.cell? ⟨gb101, 2, none⟩ = some (.int .i64 a0_2) := (blk_cell BK101.out 2).trans rfl
     have hcz35_3 : w7.cell? ⟨gb101, 3, none⟩ = some (.int .i64 a0_3) := (blk_cell BK101.out 3).trans rfl
     have hfz35_0 := blk_frozen BK101.out 0
     have hfz35_1 := blk_frozen BK101.out 1
     have hfz35_2 := blk_frozen BK101.out 2
     have hfz35_3 := blk_frozen BK101.out 3
     go_wp2_with (first | (go_at_call 42; (with_reducible refine (spec_l01In.calls a0_1 0 (wrap64 (a1 - 1)) false _ A10.out).mono ?_); rintro e w' ⟨rfl, ⟨nd, rfl⟩⟩))
     go_meet
     case rel => exact ⟨_, (true), qz2_, H', ⟨qz14_⟩, ⟨qz11_⟩, ⟨qz10_⟩⟩
   ·
    rw [if_neg c9] at H
    have c9b0 : decide (0 < t103) = false := decide_eq_false c9
    clear c9
    (first | rw [c9b0] | (simp only [i64_w, i32_w]; rw [c9b0]) | skip)
    by_cases c36 : t103 = 0
    ·
     rw [if_pos c36] at H
     have c36b0 : (t103 == 0) = true := beq_iff_eq.mpr c36
     have c36b1 : (t103 != 0) = false := bne_eq_false_iff_eq.mpr c36
     clear c36
     by_cases c37 : a0_1 = 0
     ·
      rw [if_pos c37] at H
      have c37b0 : (a0_1 == 0) = true := beq_iff_eq.mpr c37
      have c37b1 : (a0_1 != 0) = false := bne_eq_false_iff_eq.mpr c37
      clear c37
      by_cases c38 : t103 > 1
      ·
       rw [if_pos c38] at H
       have c38b0 : decide (1 < t103) = true := decide_eq_true c38
       clear c38
       replace H := Option.bind_eq_some_iff.mp H
       obtain ⟨t107, A390, H⟩ := H
       replace H : (if t107 = true then (if t103 < 2 then (spec_l11Gate.j0 k (a0_2 != 0) a0_0 a0_1 a0_2 a0_3) else (spec_l11Gate.j0 k false a0_0 a0_1 a0_2 a0_3)) else (spec_l11Gate.j0 k true a0_0 a0_1 a0_2 a0_3)) = some r := H
       have A39 := am_ A390
       clear A390
       by_cases c40 : t107 = true
       ·
        subst c40
        have H1 : (if t103 < 2 then (spec_l11Gate.j0 k (a0_2 != 0) a0_0 a0_1 a0_2 a0_3) else (spec_l11Gate.j0 k false a0_0 a0_1 a0_2 a0_3)) = some r := by rw [if_pos rfl] at H; exact H
        clear H
        have H := H1
        clear H1
        by_cases c41 : t103 < 2
        ·
         rw [if_pos c41] at H
         have c41b0 : decide (t103 < 2) = true := decide_eq_true c41
         clear c41
         have H' := am_ H
         clear H
         have hcz42_0 : w7.cell? ⟨gb101, 0, none⟩ = some (.int .i64 a0_0) := (blk_cell BK101.out 0).trans rfl
         have hcz42_1 : w7.cell? ⟨gb101, 1, none⟩ = some (.int .i64 a0_1) := (blk_cell BK101.out 1).trans rfl
         have hcz42_2 : w7.cell? ⟨gb101, 2, none⟩ = some (.int .i64 a0_2) := (blk_cell BK101.out 2).trans rfl
         have hcz42_3 : w7.cell? ⟨gb101, 3, none⟩ = some (.int .i64 a0_3) := (blk_cell BK101.out 3).trans rfl
         have hfz42_0 := blk_frozen BK101.out 0
         have hfz42_1 := blk_frozen BK101.out 1
         have hfz42_2 := blk_frozen BK101.out 2
         have hfz42_3 := blk_frozen BK101.out 3
         go_wp2_with (first | (go_at_call 42; (with_reducible refine (spec_l01In.calls a0_2 0 (wrap64 (a1 - 1)) true _ A39.out).mono ?_); rintro e w' ⟨rfl, ⟨nd, rfl⟩⟩))
         go_meet
         case rel => exact ⟨_, ((a0_2 != 0)), qz2_, H', ⟨qz14_⟩, ⟨qz11_⟩, ⟨qz10_⟩⟩
        ·
         rw [if_neg c41] at H
         have c41b0 : decide (t103 < 2) = false := decide_eq_false c41
         clear c41
         have H' := am_ H
         clear H
         have hcz43_0 : w7.cell? ⟨gb101, 0, none⟩ = some (.int .i64 a0_0) := (blk_cell BK101.out 0).trans rfl
         have hcz43_1 : w7.cell? ⟨gb101, 1, none⟩ = some (.int .i64 a0_1) := (blk_cell BK101.out 1).trans rfl
         have hcz43_2 : w7.cell? ⟨gb101, 2, none⟩ = some (.int .i64 a0_2) := (blk_cell BK101.out 2).trans rfl
         have hcz43_3 : w7.cell? ⟨gb101, 3, none⟩ = some (.int .i64 a0_3) := (blk_cell BK101.out 3).trans rfl
         have hfz43_0 := blk_frozen BK101.out 0
         have hfz43_1 := blk_frozen BK101.out 1
         have hfz43_2 := blk_frozen BK101.out 2
         have hfz43_3 := blk_frozen BK101.out 3
         go_wp2_with (first | (go_at_call 42; (with_reducible refine (spec_l01In.calls a0_2 0 (wrap64 (a1 - 1)) true _ A39.out).mono ?_); rintro e w' ⟨rfl, ⟨nd, rfl⟩⟩))
         go_meet
         case rel => exact ⟨_, (false), qz2_, H', ⟨qz14_⟩, ⟨qz11_⟩, ⟨qz10_⟩⟩
       ·
        replace c40 := Bool.eq_false_iff.mpr c40
        subst c40
        have H1 : (spec_l11Gate.j0 k true a0_0 a0_1 a0_2 a0_3) = some r := by rw [if_neg (show ¬ (false = true) by decide)] at H; exact H
        clear H
        have H := H1
        clear H1
        have H' := am_ H
        clear H
        have hcz44_0 : w7.cell? ⟨gb101, 0, none⟩ = some (.int .i64 a0_0) := (blk_cell BK101.out 0).trans rfl
        have hcz44_1 : w7.cell? ⟨gb101, 1, none⟩ = some (.int .i64 a0_1) := (blk_cell BK101.out 1).trans rfl
        have hcz44_2 : w7.cell? ⟨gb101, 2, none⟩ = some (.int .i64 a0_2) := (blk_cell BK101.out 2).trans rfl
        have hcz44_3 : w7.cell? ⟨gb101, 3, none⟩ = some (.int .i64 a0_3) := (blk_cell BK101.out 3).trans rfl
        have hfz44_0 := blk_frozen BK101.out 0
        have hfz44_1 := blk_frozen BK101.out 1
        have hfz44_2 := blk_frozen BK101.out 2
        have hfz44_3 := blk_frozen BK101.out 3
        go_wp2_with (first | (go_at_call 42; (with_reducible refine (spec_l01In.calls a0_2 0 (wrap64 (a1 - 1)) false _ A39.out).mono ?_); rintro e w' ⟨rfl, ⟨nd, rfl⟩⟩))
        go_meet
        case rel => exact ⟨_, (true), qz2_, H', ⟨qz14_⟩, ⟨qz11_⟩, ⟨qz10_⟩⟩
      ·
       rw [if_neg c38] at H
       have c38b0 : decide (1 < t103) = false := decide_eq_false c38
       clear c38
       by_cases c45 : t103 < 2
       ·
        rw [if_pos c45] at H
        have c45b0 : decide (t103 < 2) = true := decide_eq_true c45
        clear c45
        have H' := am_ H
        clear H
        have hcz46_0 : w7.cell? ⟨gb101, 0, none⟩ = some (.int .i64 a0_0) := (blk_cell BK101.out 0).trans rfl
        have hcz46_1 : w7.cell? ⟨gb101, 1, none⟩ = some (.int .i64 a0_1) := (blk_cell BK101.out 1).trans rfl
        have hcz46_2 : w7.cell? ⟨gb101, 2, none⟩ = some (.int .i64 a0_2) := (blk_cell BK101.out 2).trans rfl
        have hcz46_3 : w7.cell? ⟨gb101, 3, none⟩ = some (.int .i64 a0_3) := (blk_cell BK101.out 3).trans rfl
        have hfz46_0 := blk_frozen BK101.out 0
        have hfz46_1 := blk_frozen BK101.out 1
        have hfz46_2 := blk_frozen BK101.out 2
        have hfz46_3 := blk_frozen BK101.out 3
        go_wp2
        go_meet
        case rel => exact ⟨_, ((a0_2 != 0)), qz2_, H', ⟨qz14_⟩, ⟨qz11_⟩, ⟨qz10_⟩⟩
       ·
        rw [if_neg c45] at H
        have c45b0 : decide (t103 < 2) = false := decide_eq_false c45
        clear c45
        have H' := am_ H
        clear H
        have hcz47_0 : w7.cell? ⟨gb101, 0, none⟩ = some (.int .i64 a0_0) := (blk_cell BK101.out 0).trans rfl
        have hcz47_1 : w7.cell? ⟨gb101, 1, none⟩ = some (.int .i64 a0_1) := (blk_cell BK101.out 1).trans rfl
        have hcz47_2 : w7.cell? ⟨gb101, 2, none⟩ = some (.int .i64 a0_2) := (blk_cell BK101.out 2).trans rfl
        have hcz47_3 : w7.cell? ⟨gb101, 3, none⟩ = some (.int .i64 a0_3) := (blk_cell BK101.out 3).trans rfl
        have hfz47_0 := blk_frozen BK101.out 0
        have hfz47_1 := blk_frozen BK101.out 1
        have hfz47_2 := blk_frozen BK101.out 2
        have hfz47_3 := blk_frozen BK101.out 3
        go_wp2
        go_meet
        case rel => exact ⟨_, (false), qz2_, H', ⟨qz14_⟩, ⟨qz11_⟩, ⟨qz10_⟩⟩
     ·
      rw [if_neg c37] at H
      have c37b0 : (a0_1 == 0) = false := beq_eq_false_iff_ne.mpr c37
      have c37b1 : (a0_1 != 0) = true := bne_iff_ne.mpr c37
      have H' := am_ H
      clear H
      have hcz48_0 : w7.cell? ⟨gb101, 0, none⟩ = some (.int .i64 a0_0) := (blk_cell BK101.out 0).trans rfl
      have hcz48_1 : w7.cell? ⟨gb101, 1, none⟩ = some (.int .i64 a0_1) := (blk_cell BK101.out 1).trans rfl
      have hcz48_2 : w7.cell? ⟨gb101, 2, none⟩ = some (.int .i64 a0_2) := (blk_cell BK101.out 2).trans rfl
      have hcz48_3 : w7.cell? ⟨gb101, 3, none⟩ = some (.int .i64 a0_3) := (blk_cell BK101.out 3).trans rfl
      have hfz48_0 := blk_frozen BK101.out 0
      have hfz48_1 := blk_frozen BK101.out 1
      have hfz48_2 := blk_frozen BK101.out 2
      have hfz48_3 := blk_frozen BK101.out 3
      go_wp2
      go_meet
      case rel => exact ⟨_, (true), qz2_, H', ⟨qz14_⟩, ⟨qz11_⟩, ⟨qz10_⟩⟩
    ·
     rw [if_neg c36] at H
     have c36b0 : (t103 == 0) = false := beq_eq_false_iff_ne.mpr c36
     have c36b1 : (t103 != 0) = true := bne_iff_ne.mpr c36
     by_cases c49 : t103 > 1
     ·
      rw [if_pos c49] at H
      have c49b0 : decide (1 < t103) = true := decide_eq_true c49
      clear c49
      replace H := Option.bind_eq_some_iff.mp H
      obtain ⟨t108, A500, H⟩ := H
      replace H : (if t108 = true then (if t103 < 2 then (spec_l11Gate.j0 k (a0_2 != 0) a0_0 a0_1 a0_2 a0_3) else (spec_l11Gate.j0 k false a0_0 a0_1 a0_2 a0_3)) else (spec_l11Gate.j0 k true a0_0 a0_1 a0_2 a0_3)) = some r := H
      have A50 := am_ A500
      clear A500
      by_cases c51 : t108 = true
      ·
       subst c51
       have H1 : (if t103 < 2 then (spec_l11Gate.j0 k (a0_2 != 0) a0_0 a0_1 a0_2 a0_3) else (spec_l11Gate.j0 k false a0_0 a0_1 a0_2 a0_3)) = some r := by rw [if_pos rfl] at H; exact H
       clear H
       have H := H1
       clear H1
       by_cases c52 : t103 < 2
       ·
        rw [if_pos c52] at H
        have c52b0 : decide (t103 < 2) = true := decide_eq_true c52
        clear c52
        have H' := am_ H
        clear H
        have hcz53_0 : w7.cell? ⟨gb101, 0, none⟩ = some (.int .i64 a0_0) := (blk_cell BK101.out 0).trans rfl
        have hcz53_1 : w7.cell? ⟨gb101, 1, none⟩ = some (.int .i64 a0_1) := (blk_cell BK101.out 1).trans rfl
        have hcz53_2 : w7.cell? ⟨gb101, 2, none⟩ = some (.int .i64 a0_2) := (blk_cell BK101.out 2).trans rfl
        have hcz53_3 : w7.cell? ⟨gb101, 3, none⟩ = some (.int .i64 a0_3) := (blk_cell BK101.out 3).trans rfl
        have hfz53_0 := blk_frozen BK101.out 0
        have hfz53_1 := blk_frozen BK101.out 1
        have hfz53_2 := blk_frozen BK101.out 2
        have hfz53_3 := blk_frozen BK101.out 3
        go_wp2_with (first | (go_at_call 42; (with_reducible refine (spec_l01In.calls a0_2 0 (wrap64 (a1 - 1)) true _ A50.out).mono ?_); rintro e w' ⟨rfl, ⟨nd, rfl⟩⟩))
        go_meet
        case rel => exact ⟨_, ((a0_2 != 0)), qz2_, H', ⟨qz14_⟩, ⟨qz11_⟩, ⟨qz10_⟩⟩
       ·
        rw [if_neg c52] at H
        have c52b0 : decide (t103 < 2) = false := decide_eq_false c52
        clear c52
        have H' := am_ H
        clear H
        have hcz54_0 : w7.cell? ⟨gb101, 0, none⟩ = some (.int .i64 a0_0) := (blk_cell BK101.out 0).trans rfl
        have hcz54_1 : w7.cell? ⟨gb101, 1, none⟩ = some (.int .i64 a0_1) := (blk_cell BK101.out 1).trans rfl
        have hcz54_2 : w7.cell? ⟨gb101, 2, none⟩ = some (.int .i64 a0_2) := (blk_cell BK101.out 2).trans rfl
        have hcz54_3 : w7.cell? ⟨gb101, 3, none⟩ = some (.int .i64 a0_3) := (blk_cell BK101.out 3).trans rfl
        have hfz54_0 := blk_frozen BK101.out 0
        have hfz54_1 := blk_frozen BK101.out 1
        have hfz54_2 := blk_frozen BK101.out 2
        have hfz54_3 := blk_frozen BK101.out 3
        go_wp2_with (first | (go_at_call 42; (with_reducible refine (spec_l01In.calls a0_2 0 (wrap64 (a1 - 1)) true _ A50.out).mono ?_); rintro e w' ⟨rfl, ⟨nd, rfl⟩⟩))
        go_meet
        case rel => exact ⟨_, (false), qz2_, H', ⟨qz14_⟩, ⟨qz11_⟩, ⟨qz10_⟩⟩
      ·
       replace c51 := Bool.eq_false_iff.mpr c51
       subst c51
       have H1 : (spec_l11Gate.j0 k true a0_0 a0_1 a0_2 a0_3) = some r := by rw [if_neg (show ¬ (false = true) by decide)] at H; exact H
       clear H
       have H := H1
       clear H1
       have H' := am_ H
       clear H
       have hcz55_0 : w7.cell? ⟨gb101, 0, none⟩ = some (.int .i64 a0_0) := (blk_cell BK101.out 0).trans rfl
       have hcz55_1 : w7.cell? ⟨gb101, 1, none⟩ = some (.int .i64 a0_1) := (blk_cell BK101.out 1).trans rfl
       have hcz55_2 : w7.cell? ⟨gb101, 2, none⟩ = some (.int .i64 a0_2) := (blk_cell BK101.out 2).trans rfl
       have hcz55_3 : w7.cell? ⟨gb101, 3, none⟩ = some (.int .i64 a0_3) := (blk_cell BK101.out 3).trans rfl
       have hfz55_0 := blk_frozen BK101.out 0
       have hfz55_1 := blk_frozen BK101.out 1
       have hfz55_2 := blk_frozen BK101.out 2
       have hfz55_3 := blk_frozen BK101.out 3
       go_wp2_with (first | (go_at_call 42; (with_reducible refine (spec_l01In.calls a0_2 0 (wrap64 (a1 - 1)) false _ A50.out).mono ?_); rintro e w' ⟨rfl, ⟨nd, rfl⟩⟩))
       go_meet
       case rel => exact ⟨_, (true), qz2_, H', ⟨qz14_⟩, ⟨qz11_⟩, ⟨qz10_⟩⟩
     ·
      rw [if_neg c49] at H
      have c49b0 : decide (1 < t103) = false := decide_eq_false c49
      clear c49
      by_cases c56 : t103 < 2
      ·
       rw [if_pos c56] at H
       have c56b0 : decide (t103 < 2) = true := decide_eq_true c56
       clear c56
       have H' := am_ H
       clear H
       have hcz57_0 : w7.cell? ⟨gb101, 0, none⟩ = some (.int .i64 a0_0) := (blk_cell BK101.out 0).trans rfl
       have hcz57_1 : w7.cell? ⟨gb101, 1, none⟩ = some (.int .i64 a0_1) := (blk_cell BK101.out 1).trans rfl
       have hcz57_2 : w7.cell? ⟨gb101, 2, none⟩ = some (.int .i64 a0_2) := (blk_cell BK101.out 2).trans rfl
       have hcz57_3 : w7.cell? ⟨gb101, 3, none⟩ = some (.int .i64 a0_3) := (blk_cell BK101.out 3).trans rfl
       have hfz57_0 := blk_frozen BK101.out 0
       have hfz57_1 := blk_frozen BK101.out 1
       have hfz57_2 := blk_frozen BK101.out 2
       have hfz57_3 := blk_frozen BK101.out 3
       go_wp2
       go_meet
       case rel => exact ⟨_, ((a0_2 != 0)), qz2_, H', ⟨qz14_⟩, ⟨qz11_⟩, ⟨qz10_⟩⟩
      ·
       rw [if_neg c56] at H
       have c56b0 : decide (t103 < 2) = false := decide_eq_false c56
       clear c56
       have H' := am_ H
       clear H
       go_wp2
       go_meet
       case rel => exact ⟨_, (false), qz2_, H', ⟨qz14_⟩, ⟨qz11_⟩, ⟨qz10_⟩⟩
  case rest =>
   clear HC6
   try clear c1
   try clear c2
   try clear p2
   try clear c3
   try clear c4
   try clear c5
   try clear p6
   try clear c9
   try clear c9b0
   try clear c10
   try clear c11
   try clear c12
   try clear c12b0
   try clear c12b1
   try clear c13
   try clear c13b0
   try clear c13b1
   try clear c14
   try clear c14b0
   try clear c16
   try clear c17
   try clear c17b0
   try clear c21
   try clear c21b0
   try clear c25
   try clear c25b0
   try clear c27
   try clear c28
   try clear c28b0
   try clear c32
   try clear c32b0
   try clear c36
   try clear c36b0
   try clear c36b1
   try clear c37
   try clear c37b0
   try clear c37b1
   try clear c38
   try clear c38b0
   try clear c40
   try clear c41
   try clear c41b0
   try clear c42
   try clear c45
   try clear c45b0
   try clear c49
   try clear c49b0
   try clear c51
   try clear c52
   try clear c52b0
   try clear c56
   try clear c56b0
   try clear hcz18_0
   try clear hcz18_1
   try clear hcz18_2
   try clear hcz18_3
   try clear hcz19_0
   try clear hcz19_1
   try clear hcz19_2
   try clear hcz19_3
   try clear hcz20_0
   try clear hcz20_1
   try clear hcz20_2
   try clear hcz20_3
   try clear hcz22_0
   try clear hcz22_1
   try clear hcz22_2
   try clear hcz22_3
   try clear hcz23_0
   try clear hcz23_1
   try clear hcz23_2
   try clear hcz23_3
   try clear hcz24_0
   try clear hcz24_1
   try clear hcz24_2
   try clear hcz24_3
   try clear hcz29_0
   try clear hcz29_1
   try clear hcz29_2
   try clear hcz29_3
   try clear hcz30_0
   try clear hcz30_1
   try clear hcz30_2
   try clear hcz30_3
   try clear hcz31_0
   try clear hcz31_1
   try clear hcz31_2
   try clear hcz31_3
   try clear hcz33_0
   try clear hcz33_1
   try clear hcz33_2
   try clear hcz33_3
   try clear hcz34_0
   try clear hcz34_1
   try clear hcz34_2
   try clear hcz34_3
   try clear hcz35_0
   try clear hcz35_1
   try clear hcz35_2
   try clear hcz35_3
   try clear hcz42_0
   try clear hcz42_1
   try clear hcz42_2
   try clear hcz42_3
   try clear hcz43_0
   try clear hcz43_1
   try clear hcz43_2
   try clear hcz43_3
   try clear hcz44_0
   try clear hcz44_1
   try clear hcz44_2
   try clear hcz44_3
   try clear hcz46_0
   try clear hcz46_1
   try clear hcz46_2
   try clear hcz46_3
   try clear hcz47_0
   try clear hcz47_1
   try clear hcz47_2
   try clear hcz47_3
   try clear hcz48_0
   try clear hcz48_1
   try clear hcz48_2
   try clear hcz48_3
   try clear hcz53_0
   try clear hcz53_1
   try clear hcz53_2
   try clear hcz53_3
   try clear hcz54_0
   try clear hcz54_1
   try clear hcz54_2
   try clear hcz54_3
   try clear hcz55_0
   try clear hcz55_1
   try clear hcz55_2
   try clear hcz55_3
   try clear hcz57_0
   try clear hcz57_1
   try clear hcz57_2
   try clear hcz57_3
   try clear hcz8_0
   try clear hcz8_1
   try clear hcz8_2
   try clear hcz8_3
   try clear hfz18_0
   try clear hfz18_1
   try clear hfz18_2
   try clear hfz18_3
   try clear hfz19_0
   try clear hfz19_1
   try clear hfz19_2
   try clear hfz19_3
   try clear hfz20_0
   try clear hfz20_1
   try clear hfz20_2
   try clear hfz20_3
   try clear hfz22_0
   try clear hfz22_1
   try clear hfz22_2
   try clear hfz22_3
   try clear hfz23_0
   try clear hfz23_1
   try clear hfz23_2
   try clear hfz23_3
   try clear hfz24_0
   try clear hfz24_1
   try clear hfz24_2
   try clear hfz24_3
   try clear hfz29_0
   try clear hfz29_1
   try clear hfz29_2
   try clear hfz29_3
   try clear hfz30_0
   try clear hfz30_1
   try clear hfz30_2
   try clear hfz30_3
   try clear hfz31_0
   try clear hfz31_1
   try clear hfz31_2
   try clear hfz31_3
   try clear hfz33_0
   try clear hfz33_1
   try clear hfz33_2
   try clear hfz33_3
   try clear hfz34_0
   try clear hfz34_1
   try clear hfz34_2
   try clear hfz34_3
   try clear hfz35_0
   try clear hfz35_1
   try clear hfz35_2
   try clear hfz35_3
   try clear hfz42_0
   try clear hfz42_1
   try clear hfz42_2
   try clear hfz42_3
   try clear hfz43_0
   try clear hfz43_1
   try clear hfz43_2
   try clear hfz43_3
   try clear hfz44_0
   try clear hfz44_1
   try clear hfz44_2
   try clear hfz44_3
   try clear hfz46_0
   try clear hfz46_1
   try clear hfz46_2
   try clear hfz46_3
   try clear hfz47_0
   try clear hfz47_1
   try clear hfz47_2
   try clear hfz47_3
   try clear hfz48_0
   try clear hfz48_1
   try clear hfz48_2
   try clear hfz48_3
   try clear hfz53_0
   try clear hfz53_1
   try clear hfz53_2
   try clear hfz53_3
   try clear hfz54_0
   try clear hfz54_1
   try clear hfz54_2
   try clear hfz54_3
   try clear hfz55_0
   try clear hfz55_1
   try clear hfz55_2
   try clear hfz55_3
   try clear hfz57_0
   try clear hfz57_1
   try clear hfz57_2
   try clear hfz57_3
   try clear hfz8_0
   try clear hfz8_1
   try clear hfz8_2
   try clear hfz8_3
   obtain ⟨kq, x52_5, rfl, HA, HJ5, BK101, HB⟩ := hcut
   cases kq with
   | zero => exact absurd HA.out (by simp [spec_l11Gate.j0])
   | succ kj5 =>
    have H := HA.out
    clear HA
    simp only [spec_l11Gate.j0] at H
    by_cases c58 : x52_5 = true
    ·
     subst c58
     have H1 : (some false) = some r := by rw [if_pos rfl] at H; exact H
     clear H
     have H := H1
     clear H1
     obtain rfl := Option.some.inj H
     go_wp2
     go_ret
     exact ⟨qz5_, qz10_⟩
    ·
     replace c58 := Bool.eq_false_iff.mpr c58
     subst c58
     have H1 : (if a0_0 = 3 then ((spec_FieldOK.f a0_3).bind fun t109 => (some t109)) else (some (a0_3 == 0))) = some r := by rw [if_neg (show ¬ (false = true) by decide)] at H; exact H
     clear H
     have H := H1
     clear H1
     by_cases c59 : a0_0 = 3
     ·
      rw [if_pos c59] at H
      have c59b0 : (a0_0 == 3) = true := beq_iff_eq.mpr c59
      have c59b1 : (a0_0 != 3) = false := bne_eq_false_iff_eq.mpr c59
      clear c59
      replace H := Option.bind_eq_some_iff.mp H
      obtain ⟨t109, A600, H⟩ := H
      replace H : (some t109) = some r := H
      have A60 := am_ A600
      clear A600
      obtain rfl := Option.some.inj H
      have hcz61_0 : wc.cell? ⟨gb101, 0, none⟩ = some (.int .i64 a0_0) := (blk_cell BK101.out 0).trans rfl
      have hcz61_1 : wc.cell? ⟨gb101, 1, none⟩ = some (.int .i64 a0_1) := (blk_cell BK101.out 1).trans rfl
      have hcz61_2 : wc.cell? ⟨gb101, 2, none⟩ = some (.int .i64 a0_2) := (blk_cell BK101.out 2).trans rfl
      have hcz61_3 : wc.cell? ⟨gb101, 3, none⟩ = some (.int .i64 a0_3) := (blk_cell BK101.out 3).trans rfl
      have hfz61_0 := blk_frozen BK101.out 0
      have hfz61_1 := blk_frozen BK101.out 1
      have hfz61_2 := blk_frozen BK101.out 2
      have hfz61_3 := blk_frozen BK101.out 3
      go_wp2_with (first | ((with_reducible refine gate_callee (f := 83) rfl ?_); refine goesL_ (some 58) rfl rfl Try.func83 (by kernel_rfl) rfl #[.int .i64 a0_3] rfl qz9_ ?_; (with_reducible refine (spec_FieldOK.calls a0_3 t109 _ A60.out).mono ?_); rintro e w' ⟨rfl, ⟨nd, rfl⟩⟩; refine ⟨_, rfl, ?_⟩))
      go_ret
      exact ⟨qz5_, qz10_⟩
     ·
      rw [if_neg c59] at H
      have c59b0 : (a0_0 == 3) = false := beq_eq_false_iff_ne.mpr c59
      have c59b1 : (a0_0 != 3) = true := bne_iff_ne.mpr c59
      obtain rfl := Option.some.inj H
      have hcz62_0 : wc.cell? ⟨gb101, 0, none⟩ = some (.int .i64 a0_0) := (blk_cell BK101.out 0).trans rfl
      have hcz62_1 : wc.cell? ⟨gb101, 1, none⟩ = some (.int .i64 a0_1) := (blk_cell BK101.out 1).trans rfl
      have hcz62_2 : wc.cell? ⟨gb101, 2, none⟩ = some (.int .i64 a0_2) := (blk_cell BK101.out 2).trans rfl
      have hcz62_3 : wc.cell? ⟨gb101, 3, none⟩ = some (.int .i64 a0_3) := (blk_cell BK101.out 3).trans rfl
      have hfz62_0 := blk_frozen BK101.out 0
      have hfz62_1 := blk_frozen BK101.out 1
      have hfz62_2 := blk_frozen BK101.out 2
      have hfz62_3 := blk_frozen BK101.out 3
      go_wp2
      go_ret
      exact ⟨qz5_, qz10_⟩
 ·
  replace c4 := Bool.eq_false_iff.mpr c4
  subst c4
  have H1 : (some false) = some r := by rw [if_neg (show ¬ (false = true) by decide)] at H; exact H
  clear H
  have H := H1
  clear H1
  obtain rfl := Option.some.inj H
  go_enter Try.func105, Try.ntmps105
  go_wp2_with (first | ((with_reducible refine gate_dst (N := 2) rfl ?_); refine box_event ?hg (N := 2) ?hd (cs := #[.int .i64 a0_0, .int .i64 a0_1, .int .i64 a0_2, .int .i64 a0_3]) (t := 115) ?hr ?_; (case hd => rfl); (case hg => rfl); (case hr => first | (go_simp; done) | (go_simp; rfl)); intro gb101 hg w63 hbox hb; have n0_ := am_ (below_step qz1_ hb); have n1_ := am_ (hbox); have n2_ := am_ ((by rw [hg]; exact (below_size qz1_) : w.heap.size ≤ gb101)); have n3_ := am_ ((by rw [hg]; exact (below_size qz1_) : w.heap.size ≤ gb101)); clear HB; have HB := n0_; have BK101 := n1_; have GW101 := n2_; have GE101 := n3_; clear n0_ n1_ n2_ n3_; clear hb hbox hg; have hcz64_0 : w63.cell? ⟨gb101, 0, none⟩ = some (.int .i64 a0_0) := (blk_cell BK101.out 0).trans rfl; have hcz64_1 : w63.cell? ⟨gb101, 1, none⟩ = some (.int .i64 a0_1) := (blk_cell BK101.out 1).trans rfl; have hcz64_2 : w63.cell? ⟨gb101, 2, none⟩ = some (.int .i64 a0_2) := (blk_cell BK101.out 2).trans rfl; have hcz64_3 : w63.cell? ⟨gb101, 3, none⟩ = some (.int .i64 a0_3) := (blk_cell BK101.out 3).trans rfl; have hfz64_0 := blk_frozen BK101.out 0; have hfz64_1 := blk_frozen BK101.out 1; have hfz64_2 := blk_frozen BK101.out 2; have hfz64_3 := blk_frozen BK101.out 3) | ((with_reducible refine gate_callee (f := 42) rfl ?_); refine goesL_ (some 8) rfl rfl Try.func42 (by kernel_rfl) rfl #[.int .i64 a0_0, .int .i64 1, .int .i64 8] rfl qz9_ ?_; (with_reducible refine (spec_l01In.calls a0_0 1 8 false _ A3.out).mono ?_); rintro e w' ⟨rfl, ⟨nd, rfl⟩⟩; refine ⟨_, rfl, ?_⟩))
  go_ret
  exact ⟨qz5_, qz10_⟩


/-! ### spec_CircuitOK: function 91 -/
def spec_CircuitOK.l0 : Nat → Int → List (S115) → Option (Bool)
 | 0, _, _ => none
 | k + 1, x3, x102000 => if x3 < (x102000.length : Int) then (if 0 ≤ x3 then ((spec_l11Gate.f k ((rd_T115 x102000 x3).f0) ((rd_T115 x102000 x3).f1) ((rd_T115 x102000 x3).f2) ((rd_T115 x102000 x3).f3) x3).bind fun t104 => (if t104 = true then (spec_CircuitOK.l0 k (wrap64 (x3 + 1)) x102000) else (some false))) else (none)) else ((spec_l11Count.f k x102000 2).bind fun t105 => (some (decide (t105 ≤ 7))))
def spec_CircuitOK.f (k : Nat) (l0_0 : List (S115)) : Option (Bool) := (spec_l01In.f (l0_0.length : Int) 1 15).bind fun t102 => (if t102 = true then (spec_CircuitOK.l0 k 0 l0_0) else (some false))
theorem spec_CircuitOK.mono_l : ∀ k, (∀ y0 y1, LeO (spec_CircuitOK.l0 k y0 y1) (spec_CircuitOK.l0 (k + 1) y0 y1))
 | 0 => fun _ _ r h => by simp [spec_CircuitOK.l0] at h
 | k + 1 => by
  have ih0 := spec_CircuitOK.mono_l k
  ·
   intro y0 y1
   unfold spec_CircuitOK.l0
   repeat' first
   | (with_reducible exact ih0 _ _)
   | (with_reducible exact spec_l11Count.mono _ _ _)
   | (with_reducible exact spec_l11Gate.mono _ _ _ _ _ _)
   | (with_reducible exact LeO.refl _)
   | (with_reducible exact LeO.none _)
   | (with_reducible refine LeO.ite ?_ ?_)
   | (with_reducible refine LeO.bind ?_ (fun _ => ?_))
   | exact ih0 _ _
   | exact spec_l11Count.mono _ _ _
   | exact spec_l11Gate.mono _ _ _ _ _ _
   | exact LeO.none _
   | refine LeO.ite ?_ ?_
   | refine LeO.bind ?_ (fun _ => ?_)
theorem spec_CircuitOK.mono : ∀ a0 k, LeO (spec_CircuitOK.f k a0) (spec_CircuitOK.f (k + 1) a0) := by
 intro a0 k
 have ih0 := spec_CircuitOK.mono_l k
 unfold spec_CircuitOK.f
 repeat' first
   | (with_reducible exact ih0 _ _)
   | (with_reducible exact spec_l11Count.mono _ _ _)
   | (with_reducible exact spec_l11Gate.mono _ _ _ _ _ _)
   | (with_reducible exact LeO.refl _)
   | (with_reducible exact LeO.none _)
   | (with_reducible refine LeO.ite ?_ ?_)
   | (with_reducible refine LeO.bind ?_ (fun _ => ?_))
   | exact ih0 _ _
   | exact spec_l11Count.mono _ _ _
   | exact spec_l11Gate.mono _ _ _ _ _ _
   | exact LeO.none _
   | refine LeO.ite ?_ ?_
   | refine LeO.bind ?_ (fun _ => ?_)
set_option maxHeartbeats 8000000 in
set_option maxRecDepth 100000 in
theorem spec_CircuitOK.calls (k : Nat) (A0_0 : Option Addr) (c0_0 : Nat) (l0_0 : List (S115)) (r : Bool) (w : World) (hr0_0 : Kd.C k115 w A0_0 l0_0.length l0_0) (hc0_0 : l0_0.length ≤ c0_0) (h : spec_CircuitOK.f k l0_0 = some r) :
  Calls Try.prog 91 #[.agg #[.slice A0_0 l0_0.length c0_0]] w fun e w' => e = .returned (.bool r) ∧ Below w.heap.size w w' := by
 have hu63 := Try.underlying63
 have hu115 := Try.underlying115
 have HR0_0 := am_ hr0_0
 have HC0_0 := am_ hc0_0
 clear hr0_0 hc0_0
 have HB := am_ (Below.refl w.heap.size w)
 have H : ((spec_l01In.f (l0_0.length : Int) 1 15).bind fun t102 => (if t102 = true then (spec_CircuitOK.l0 k 0 l0_0) else (some false))) = some r := h
 clear h
 replace H := Option.bind_eq_some_iff.mp H
 obtain ⟨t102, A20, H⟩ := H
 replace H : (if t102 = true then (spec_CircuitOK.l0 k 0 l0_0) else (some false)) = some r := H
 have A2 := am_ A20
 clear A20
 by_cases c3 : t102 = true
 ·
  subst c3
  have H1 : (spec_CircuitOK.l0 k 0 l0_0) = some r := by rw [if_pos rfl] at H; exact H
  clear H
  have H := H1
  clear H1
  have H' := am_ H
  clear H
  go_enter Try.func91, Try.ntmps91
  go_wp2_with (first | ((with_reducible refine gate_dst (N := 1) rfl ?_); refine box_event ?hg (N := 1) ?hd (cs := #[.slice A0_0 l0_0.length c0_0]) (t := 63) ?hr ?_; (case hd => rfl); (case hg => rfl); (case hr => first | (go_simp; done) | (go_simp; rfl)); intro gb101 hg w4 hbox hb; have n0_ := am_ (below_step qz1_ hb); have n1_ := am_ (hbox); have n2_ := am_ ((by rw [hg]; exact (below_size qz1_) : w.heap.size ≤ gb101)); have n3_ := am_ ((by rw [hg]; exact (below_size qz1_) : w.heap.size ≤ gb101)); clear HB; have HB := n0_; have BK101 := n1_; have GW101 := n2_; have GE101 := n3_; clear n0_ n1_ n2_ n3_; clear hb hbox hg; have hcz5_0 : w4.cell? ⟨gb101, 0, none⟩ = some (.slice A0_0 l0_0.length c0_0) := (blk_cell BK101.out 0).trans rfl; have hfz5_0 := blk_frozen BK101.out 0) | ((with_reducible refine gate_callee (f := 42) rfl ?_); refine goesL_ (some 7) rfl rfl Try.func42 (by kernel_rfl) rfl #[.int .i64 (l0_0.length : Int), .int .i64 1, .int .i64 15] rfl qz9_ ?_; (with_reducible refine (spec_l01In.calls (l0_0.length : Int) 1 15 true _ A2.out).mono ?_); rintro e w' ⟨rfl, ⟨nd, rfl⟩⟩; refine ⟨_, rfl, ?_⟩))
  go_loopg [3] k (fun kq v3 w' => ∃ (x3_1 : Int), v3 = .int .i64 x3_1 ∧ Aside0 (spec_CircuitOK.l0 kq x3_1 l0_0 = some r) ∧ Aside0 (kq ≤ k) ∧ Aside0 (w'.heap[gb101]? = some (.cells #[(.slice A0_0 l0_0.length c0_0)] 63 (0, 0))) ∧ Aside0 (Below w.heap.size w w'))
  case atStart => exact ⟨(0), qz2_, H', ⟨Nat.le_refl _⟩, ⟨qz11_⟩, ⟨qz10_⟩⟩
  case round =>
   clear H'
   try clear p2
   try clear c3
   try clear c4
   try clear hcz5_0
   try clear hfz5_0
   obtain ⟨x3_1, rfl, HA, HK1, BK101, HB⟩ := hrel
   cases gk with
   | zero => exact absurd HA.out (by simp [spec_CircuitOK.l0])
   | succ k1 =>
    have H := HA.out
    clear HA
    simp only [spec_CircuitOK.l0] at H
    by_cases c6 : x3_1 < (l0_0.length : Int)
    ·
     rw [if_pos c6] at H
     have c6b0 : decide (x3_1 < (l0_0.length : Int)) = true := decide_eq_true c6
     clear c6
     by_cases c7 : 0 ≤ x3_1
     ·
      rw [if_pos c7] at H
      have c7b0 : decide (0 ≤ x3_1) = true := decide_eq_true c7
      clear c7
      replace H := Option.bind_eq_some_iff.mp H
      obtain ⟨t104, A80, H⟩ := H
      replace H : (if t104 = true then (spec_CircuitOK.l0 k1 (wrap64 (x3_1 + 1)) l0_0) else (some false)) = some r := H
      have A8 := am_ A80
      clear A80
      by_cases c9 : t104 = true
      ·
       subst c9
       have H1 : (spec_CircuitOK.l0 k1 (wrap64 (x3_1 + 1)) l0_0) = some r := by rw [if_pos rfl] at H; exact H
       clear H
       have H := H1
       clear H1
       have H' := am_ H
       clear H
       have hcz10_0 : wr.cell? ⟨gb101, 0, none⟩ = some (.slice A0_0 l0_0.length c0_0) := (blk_cell BK101.out 0).trans rfl
       have hfz10_0 := blk_frozen BK101.out 0
       have p103 : 0 ≤ (x3_1 : Int) := of_decide_eq_true qz0_
       have q103 : x3_1 < (l0_0.length : Int) := of_decide_eq_true qz0_
       obtain ⟨ad103, e103, hx103_0, hx103_1, hx103_2, hx103_3⟩ := at_T115 HR0_0.out x3_1 p103 q103
       cases e103
       replace hx103_0 := (HB.out.cell (World.block_lt_of_cell? w _ hx103_0)).trans hx103_0
       replace hx103_1 := (HB.out.cell (World.block_lt_of_cell? w _ hx103_1)).trans hx103_1
       replace hx103_2 := (HB.out.cell (World.block_lt_of_cell? w _ hx103_2)).trans hx103_2
       replace hx103_3 := (HB.out.cell (World.block_lt_of_cell? w _ hx103_3)).trans hx103_3
       replace p103 := eq_true p103
       replace q103 := eq_true q103
       go_wp2_with (first | ((with_reducible refine gate_callee (f := 105) rfl ?_); refine goesL_ (some 22) rfl rfl Try.func105 (by kernel_rfl) rfl #[.agg #[.int .i64 ((rd_T115 l0_0 x3_1).f0), .int .i64 ((rd_T115 l0_0 x3_1).f1), .int .i64 ((rd_T115 l0_0 x3_1).f2), .int .i64 ((rd_T115 l0_0 x3_1).f3)], .int .i64 x3_1] rfl qz9_ ?_; (with_reducible refine (spec_l11Gate.calls k1 ((rd_T115 l0_0 x3_1).f0) ((rd_T115 l0_0 x3_1).f1) ((rd_T115 l0_0 x3_1).f2) ((rd_T115 l0_0 x3_1).f3) x3_1 true _ A8.out).mono ?_); rintro e w11 ⟨rfl, hb⟩; refine ⟨_, rfl, ?_⟩; have n0_ := am_ (blk_below (g := gb101) (o := .cells #[.slice (some ad103) l0_0.length c0_0] 63 (0, 0)) qz11_ hb); have n1_ := am_ (below_step qz10_ hb); clear BK101; clear HB; have BK101 := n0_; have HB := n1_; clear n0_ n1_; (try clear hb); (try clear hb2); (try clear hk); (try clear hi)))
       go_roundg k1
       case measure => have := HK1.out; omega
       case rel => exact ⟨(wrap64 (x3_1 + 1)), qz2_, H', ⟨qz3_⟩, ⟨qz11_⟩, ⟨qz10_⟩⟩
      ·
       replace c9 := Bool.eq_false_iff.mpr c9
       subst c9
       have H1 : (some false) = some r := by rw [if_neg (show ¬ (false = true) by decide)] at H; exact H
       clear H
       have H := H1
       clear H1
       obtain rfl := Option.some.inj H
       have hcz12_0 : wr.cell? ⟨gb101, 0, none⟩ = some (.slice A0_0 l0_0.length c0_0) := (blk_cell BK101.out 0).trans rfl
       have hfz12_0 := blk_frozen BK101.out 0
       have p103 : 0 ≤ (x3_1 : Int) := of_decide_eq_true qz0_
       have q103 : x3_1 < (l0_0.length : Int) := of_decide_eq_true qz0_
       obtain ⟨ad103, e103, hx103_0, hx103_1, hx103_2, hx103_3⟩ := at_T115 HR0_0.out x3_1 p103 q103
       cases e103
       replace hx103_0 := (HB.out.cell (World.block_lt_of_cell? w _ hx103_0)).trans hx103_0
       replace hx103_1 := (HB.out.cell (World.block_lt_of_cell? w _ hx103_1)).trans hx103_1
       replace hx103_2 := (HB.out.cell (World.block_lt_of_cell? w _ hx103_2)).trans hx103_2
       replace hx103_3 := (HB.out.cell (World.block_lt_of_cell? w _ hx103_3)).trans hx103_3
       replace p103 := eq_true p103
       replace q103 := eq_true q103
       go_wp2_with (first | ((with_reducible refine gate_callee (f := 105) rfl ?_); refine goesL_ (some 22) rfl rfl Try.func105 (by kernel_rfl) rfl #[.agg #[.int .i64 ((rd_T115 l0_0 x3_1).f0), .int .i64 ((rd_T115 l0_0 x3_1).f1), .int .i64 ((rd_T115 l0_0 x3_1).f2), .int .i64 ((rd_T115 l0_0 x3_1).f3)], .int .i64 x3_1] rfl qz9_ ?_; (with_reducible refine (spec_l11Gate.calls k1 ((rd_T115 l0_0 x3_1).f0) ((rd_T115 l0_0 x3_1).f1) ((rd_T115 l0_0 x3_1).f2) ((rd_T115 l0_0 x3_1).f3) x3_1 false _ A8.out).mono ?_); rintro e w13 ⟨rfl, hb⟩; refine ⟨_, rfl, ?_⟩; have n0_ := am_ (blk_below (g := gb101) (o := .cells #[.slice (some ad103) l0_0.length c0_0] 63 (0, 0)) qz11_ hb); have n1_ := am_ (below_step qz10_ hb); clear BK101; clear HB; have BK101 := n0_; have HB := n1_; clear n0_ n1_; (try clear hb); (try clear hb2); (try clear hk); (try clear hi)))
       go_ret
       exact ⟨qz5_, qz10_⟩
     ·
      rw [if_neg c7] at H
      exact absurd H (by simp)
    ·
     rw [if_neg c6] at H
     have c6b0 : decide (x3_1 < (l0_0.length : Int)) = false := decide_eq_false c6
     clear c6
     replace H := Option.bind_eq_some_iff.mp H
     obtain ⟨t105, A140, H⟩ := H
     replace H : (some (decide (t105 ≤ 7))) = some r := H
     have A14 := am_ A140
     clear A140
     obtain rfl := Option.some.inj H
     have hcz15_0 : wr.cell? ⟨gb101, 0, none⟩ = some (.slice A0_0 l0_0.length c0_0) := (blk_cell BK101.out 0).trans rfl
     have hfz15_0 := blk_frozen BK101.out 0
     go_wp2_with (first | ((with_reducible refine gate_callee (f := 92) rfl ?_); refine goesL_ (some 25) rfl rfl Try.func92 (by kernel_rfl) rfl #[.agg #[.slice A0_0 l0_0.length c0_0], .int .i64 2] rfl qz9_ ?_; (with_reducible refine (spec_l11Count.calls k1 _ _ l0_0 2 t105 _ ?side1 ?side2 A14.out).mono ?_); (case side1 => exact qc_ (Kd.C_below HR0_0.out HB.out)); (case side2 => exact HC0_0.out); rintro e w16 ⟨rfl, hb⟩; refine ⟨_, rfl, ?_⟩; have n0_ := am_ (blk_below (g := gb101) (o := .cells #[.slice A0_0 l0_0.length c0_0] 63 (0, 0)) qz11_ hb); have n1_ := am_ (below_step qz10_ hb); clear BK101; clear HB; have BK101 := n0_; have HB := n1_; clear n0_ n1_; (try clear hb); (try clear hb2); (try clear hk); (try clear hi)))
     go_ret
     exact ⟨qz5_, qz10_⟩
 ·
  replace c3 := Bool.eq_false_iff.mpr c3
  subst c3
  have H1 : (some false) = some r := by rw [if_neg (show ¬ (false = true) by decide)] at H; exact H
  clear H
  have H := H1
  clear H1
  obtain rfl := Option.some.inj H
  go_enter Try.func91, Try.ntmps91
  go_wp2_with (first | ((with_reducible refine gate_dst (N := 1) rfl ?_); refine box_event ?hg (N := 1) ?hd (cs := #[.slice A0_0 l0_0.length c0_0]) (t := 63) ?hr ?_; (case hd => rfl); (case hg => rfl); (case hr => first | (go_simp; done) | (go_simp; rfl)); intro gb101 hg w17 hbox hb; have n0_ := am_ (below_step qz1_ hb); have n1_ := am_ (hbox); have n2_ := am_ ((by rw [hg]; exact (below_size qz1_) : w.heap.size ≤ gb101)); have n3_ := am_ ((by rw [hg]; exact (below_size qz1_) : w.heap.size ≤ gb101)); clear HB; have HB := n0_; have BK101 := n1_; have GW101 := n2_; have GE101 := n3_; clear n0_ n1_ n2_ n3_; clear hb hbox hg; have hcz18_0 : w17.cell? ⟨gb101, 0, none⟩ = some (.slice A0_0 l0_0.length c0_0) := (blk_cell BK101.out 0).trans rfl; have hfz18_0 := blk_frozen BK101.out 0) | ((with_reducible refine gate_callee (f := 42) rfl ?_); refine goesL_ (some 7) rfl rfl Try.func42 (by kernel_rfl) rfl #[.int .i64 (l0_0.length : Int), .int .i64 1, .int .i64 15] rfl qz9_ ?_; (with_reducible refine (spec_l01In.calls (l0_0.length : Int) 1 15 false _ A2.out).mono ?_); rintro e w' ⟨rfl, ⟨nd, rfl⟩⟩; refine ⟨_, rfl, ?_⟩))
  go_ret
  exact ⟨qz5_, qz10_⟩


/-! ### spec_l11Ask: function 69 -/
mutual
def spec_l11Ask.j0 : Nat → List Int → List Int → Bool → List (S115) → Option (Int)
 | 0, _, _, _, _ => none
 | k + 1, x1, x2, x7, x102000 => if x7 = true then (some 2) else ((spec_CircuitOK.f k x102000).bind fun t102 => (if t102 = true then ((spec_l10Fields.f k x1).bind fun t103 => (if t103 = true then ((spec_l10Fields.f k x2).bind fun t104 => (spec_l11Ask.j1 k x1 x2 (!t104) x102000)) else (spec_l11Ask.j1 k x1 x2 true x102000))) else (some 19)))
def spec_l11Ask.j1 : Nat → List Int → List Int → Bool → List (S115) → Option (Int)
 | 0, _, _, _, _ => none
 | k + 1, x1, x2, x20, x102000 => if x20 = true then (some 1) else ((spec_l11Count.f k x102000 2).bind fun t105 => (if (x1.length : Int) = t105 then ((spec_l11Count.f k x102000 1).bind fun t106 => (if (x2.length : Int) = t106 then (some 0) else (some 8))) else (some 8)))
end
def spec_l11Ask.f (k : Nat) (l0_0 : List (S115)) (l1 : List Int) (l2 : List Int) : Option (Int) := if (l1.length : Int) > 4096 then (spec_l11Ask.j0 k l1 l2 true l0_0) else (spec_l11Ask.j0 k l1 l2 (decide ((l2.length : Int) > 4096)) l0_0)
theorem spec_l11Ask.mono_l : ∀ k, (∀ y0 y1 y2 y3, LeO (spec_l11Ask.j0 k y0 y1 y2 y3) (spec_l11Ask.j0 (k + 1) y0 y1 y2 y3)) ∧ (∀ y0 y1 y2 y3, LeO (spec_l11Ask.j1 k y0 y1 y2 y3) (spec_l11Ask.j1 (k + 1) y0 y1 y2 y3))
 | 0 => ⟨fun _ _ _ _ r h => by simp [spec_l11Ask.j0] at h, fun _ _ _ _ r h => by simp [spec_l11Ask.j1] at h⟩
 | k + 1 => by
  obtain ⟨ih0, ih1⟩ := spec_l11Ask.mono_l k
  refine ⟨?_, ?_⟩
  ·
   intro y0 y1 y2 y3
   unfold spec_l11Ask.j0
   repeat' first
   | (with_reducible exact ih0 _ _ _ _)
   | (with_reducible exact ih1 _ _ _ _)
   | (with_reducible exact spec_CircuitOK.mono _ _)
   | (with_reducible exact spec_l10Fields.mono _ _)
   | (with_reducible exact spec_l11Count.mono _ _ _)
   | (with_reducible exact LeO.refl _)
   | (with_reducible exact LeO.none _)
   | (with_reducible refine LeO.ite ?_ ?_)
   | (with_reducible refine LeO.bind ?_ (fun _ => ?_))
   | exact ih0 _ _ _ _
   | exact ih1 _ _ _ _
   | exact spec_CircuitOK.mono _ _
   | exact spec_l10Fields.mono _ _
   | exact spec_l11Count.mono _ _ _
   | exact LeO.none _
   | refine LeO.ite ?_ ?_
   | refine LeO.bind ?_ (fun _ => ?_)
  ·
   intro y0 y1 y2 y3
   unfold spec_l11Ask.j1
   repeat' first
   | (with_reducible exact ih0 _ _ _ _)
   | (with_reducible exact ih1 _ _ _ _)
   | (with_reducible exact spec_CircuitOK.mono _ _)
   | (with_reducible exact spec_l10Fields.mono _ _)
   | (with_reducible exact spec_l11Count.mono _ _ _)
   | (with_reducible exact LeO.refl _)
   | (with_reducible exact LeO.none _)
   | (with_reducible refine LeO.ite ?_ ?_)
   | (with_reducible refine LeO.bind ?_ (fun _ => ?_))
   | exact ih0 _ _ _ _
   | exact ih1 _ _ _ _
   | exact spec_CircuitOK.mono _ _
   | exact spec_l10Fields.mono _ _
   | exact spec_l11Count.mono _ _ _
   | exact LeO.none _
   | refine LeO.ite ?_ ?_
   | refine LeO.bind ?_ (fun _ => ?_)
theorem spec_l11Ask.mono : ∀ a0 a1 a2 k, LeO (spec_l11Ask.f k a0 a1 a2) (spec_l11Ask.f (k + 1) a0 a1 a2) := by
 intro a0 a1 a2 k
 obtain ⟨ih0, ih1⟩ := spec_l11Ask.mono_l k
 unfold spec_l11Ask.f
 repeat' first
   | (with_reducible exact ih0 _ _ _ _)
   | (with_reducible exact ih1 _ _ _ _)
   | (with_reducible exact spec_CircuitOK.mono _ _)
   | (with_reducible exact spec_l10Fields.mono _ _)
   | (with_reducible exact spec_l11Count.mono _ _ _)
   | (with_reducible exact LeO.refl _)
   | (with_reducible exact LeO.none _)
   | (with_reducible refine LeO.ite ?_ ?_)
   | (with_reducible refine LeO.bind ?_ (fun _ => ?_))
   | exact ih0 _ _ _ _
   | exact ih1 _ _ _ _
   | exact spec_CircuitOK.mono _ _
   | exact spec_l10Fields.mono _ _
   | exact spec_l11Count.mono _ _ _
   | exact LeO.none _
   | refine LeO.ite ?_ ?_
   | refine LeO.bind ?_ (fun _ => ?_)
set_option maxHeartbeats 8000000 in
set_option maxRecDepth 100000 in
theorem spec_l11Ask.calls (k : Nat) (A0_0 : Option Addr) (c0_0 : Nat) (l0_0 : List (S115)) (A1 : Option Addr) (c1 : Nat) (l1 : List Int) (A2 : Option Addr) (c2 : Nat) (l2 : List Int) (r : Int) (w : World) (hr0_0 : Kd.C k115 w A0_0 l0_0.length l0_0) (hc0_0 : l0_0.length ≤ c0_0) (hr1 : Kd.C (Kd.int .i64) w A1 l1.length l1) (hc1 : l1.length ≤ c1) (hr2 : Kd.C (Kd.int .i64) w A2 l2.length l2) (hc2 : l2.length ≤ c2) (h : spec_l11Ask.f k l0_0 l1 l2 = some r) :
  Calls Try.prog 69 #[.agg #[.slice A0_0 l0_0.length c0_0], .slice A1 l1.length c1, .slice A2 l2.length c2] w fun e w' => e = .returned (.int .i64 r) ∧ Below w.heap.size w w' := by
 have hu63 := Try.underlying63
 have HR0_0 := am_ hr0_0
 have HC0_0 := am_ hc0_0
 clear hr0_0 hc0_0
 have HR1 := am_ hr1
 have HC1 := am_ hc1
 clear hr1 hc1
 have HR2 := am_ hr2
 have HC2 := am_ hc2
 clear hr2 hc2
 have HB := am_ (Below.refl w.heap.size w)
 have H : (if (l1.length : Int) > 4096 then (spec_l11Ask.j0 k l1 l2 true l0_0) else (spec_l11Ask.j0 k l1 l2 (decide ((l2.length : Int) > 4096)) l0_0)) = some r := h
 clear h
 have HC4 := am_ H
 clear H
 go_enter Try.func69, Try.ntmps69
 go_upto_region 1 with (first | ((with_reducible refine gate_dst (N := 3) rfl ?_); (try (refine gate_guard (by rfl) ?_; dsimp only)); refine box_event ?hg (N := 3) ?hd (cs := #[.slice A0_0 l0_0.length c0_0]) (t := 63) ?hr ?_; (case hd => rfl); (case hg => rfl); (case hr => first | (go_simp; done) | (go_simp; rfl)); intro gb101 hg w5 hbox hb; have n0_ := am_ (below_step qz1_ hb); have n1_ := am_ (hbox); have n2_ := am_ ((by rw [hg]; exact (below_size qz1_) : w.heap.size ≤ gb101)); have n3_ := am_ ((by rw [hg]; exact (below_size qz1_) : w.heap.size ≤ gb101)); clear HB; have HB := n0_; have BK101 := n1_; have GW101 := n2_; have GE101 := n3_; clear n0_ n1_ n2_ n3_; clear hb hbox hg))
 (try simp only [Act.put, List.setIfInBounds_toArray, List.set_cons_zero, List.set_cons_succ])
 go_cut [7] (fun v7 wc => ∃ (kq : Nat) (x7_3 : Bool), v7 = .bool x7_3 ∧ Aside0 (spec_l11Ask.j0 kq l1 l2 x7_3 l0_0 = some r) ∧ Aside0 (kq ≤ k) ∧ Aside0 (wc.heap[gb101]? = some (.cells #[(.slice A0_0 l0_0.length c0_0)] 63 (0, 0))) ∧ Aside0 (Below w.heap.size w wc))
 case first =>
  have H := HC4.out
  clear HC4
  by_cases c6 : (l1.length : Int) > 4096
  ·
   rw [if_pos c6] at H
   have c6b0 : decide (4096 < (l1.length : Int)) = true := decide_eq_true c6
   have c6b1 : decide (4096 < l1.length) = true := decide_eq_true (by omega)
   clear c6
   (first | rw [c6b0] | (simp only [i64_w, i32_w]; rw [c6b0]) | skip)
   have H' := am_ H
   clear H
   go_wp2
   go_meet
   case rel => exact ⟨_, (true), qz2_, H', ⟨qz14_⟩, ⟨qz11_⟩, ⟨qz10_⟩⟩
  ·
   rw [if_neg c6] at H
   have c6b0 : decide (4096 < (l1.length : Int)) = false := decide_eq_false c6
   have c6b1 : decide (4096 < l1.length) = false := decide_eq_false (by omega)
   clear c6
   (first | rw [c6b0] | (simp only [i64_w, i32_w]; rw [c6b0]) | skip)
   have H' := am_ H
   clear H
   go_wp2
   go_meet
   case rel => exact ⟨_, (decide ((l2.length : Int) > 4096)), qz2_, H', ⟨qz14_⟩, ⟨qz11_⟩, ⟨qz10_⟩⟩
 case rest =>
  clear HC4
  try clear c1
  try clear c2
  try clear p2
  try clear c6
  try clear c6b0
  try clear c6b1
  obtain ⟨kq, x7_3, rfl, HA, HJ3, BK101, HB⟩ := hcut
  cases kq with
  | zero => exact absurd HA.out (by simp [spec_l11Ask.j0])
  | succ kj3 =>
   have H := HA.out
   clear HA
   simp only [spec_l11Ask.j0] at H
   by_cases c7 : x7_3 = true
   ·
    subst c7
    have H1 : (some 2) = some r := by rw [if_pos rfl] at H; exact H
    clear H
    have H := H1
    clear H1
    obtain rfl := Option.some.inj H
    go_wp2
    go_ret
    exact ⟨qz5_, qz10_⟩
   ·
    replace c7 := Bool.eq_false_iff.mpr c7
    subst c7
    have H1 : ((spec_CircuitOK.f kj3 l0_0).bind fun t102 => (if t102 = true then ((spec_l10Fields.f kj3 l1).bind fun t103 => (if t103 = true then ((spec_l10Fields.f kj3 l2).bind fun t104 => (spec_l11Ask.j1 kj3 l1 l2 (!t104) l0_0)) else (spec_l11Ask.j1 kj3 l1 l2 true l0_0))) else (some 19))) = some r := by rw [if_neg (show ¬ (false = true) by decide)] at H; exact H
    clear H
    have H := H1
    clear H1
    replace H := Option.bind_eq_some_iff.mp H
    obtain ⟨t102, A80, H⟩ := H
    replace H : (if t102 = true then ((spec_l10Fields.f kj3 l1).bind fun t103 => (if t103 = true then ((spec_l10Fields.f kj3 l2).bind fun t104 => (spec_l11Ask.j1 kj3 l1 l2 (!t104) l0_0)) else (spec_l11Ask.j1 kj3 l1 l2 true l0_0))) else (some 19)) = some r := H
    have A8 := am_ A80
    clear A80
    by_cases c9 : t102 = true
    ·
     subst c9
     have H1 : ((spec_l10Fields.f kj3 l1).bind fun t103 => (if t103 = true then ((spec_l10Fields.f kj3 l2).bind fun t104 => (spec_l11Ask.j1 kj3 l1 l2 (!t104) l0_0)) else (spec_l11Ask.j1 kj3 l1 l2 true l0_0))) = some r := by rw [if_pos rfl] at H; exact H
     clear H
     have H := H1
     clear H1
     have HC10 := am_ H
     clear H
     have hcz11_0 : wc.cell? ⟨gb101, 0, none⟩ = some (.slice A0_0 l0_0.length c0_0) := (blk_cell BK101.out 0).trans rfl
     have hfz11_0 := blk_frozen BK101.out 0
     go_upto_region 5 with (first | ((with_reducible refine gate_callee (f := 91) rfl ?_); refine goesL_ (some 18) rfl rfl Try.func91 (by kernel_rfl) rfl #[.agg #[.slice A0_0 l0_0.length c0_0]] rfl qz9_ ?_; (with_reducible refine (spec_CircuitOK.calls kj3 _ _ l0_0 true _ ?side1 ?side2 A8.out).mono ?_); (case side1 => exact qc_ (Kd.C_below HR0_0.out HB.out)); (case side2 => exact HC0_0.out); rintro e w12 ⟨rfl, hb⟩; refine ⟨_, rfl, ?_⟩; have n0_ := am_ (blk_below (g := gb101) (o := .cells #[.slice A0_0 l0_0.length c0_0] 63 (0, 0)) qz11_ hb); have n1_ := am_ (below_step qz10_ hb); clear BK101; clear HB; have BK101 := n0_; have HB := n1_; clear n0_ n1_; (try clear hb); (try clear hb2); (try clear hk); (try clear hi)))
     (try simp only [Act.put, List.setIfInBounds_toArray, List.set_cons_zero, List.set_cons_succ])
     go_cut [20] (fun v20 wc => ∃ (kq : Nat) (x20_9 : Bool), v20 = .bool x20_9 ∧ Aside0 (spec_l11Ask.j1 kq l1 l2 x20_9 l0_0 = some r) ∧ Aside0 (kq ≤ kj3) ∧ Aside0 (wc.heap[gb101]? = some (.cells #[(.slice A0_0 l0_0.length c0_0)] 63 (0, 0))) ∧ Aside0 (Below w.heap.size w wc))
     case first =>
      have H := HC10.out
      clear HC10
      replace H := Option.bind_eq_some_iff.mp H
      obtain ⟨t103, A130, H⟩ := H
      replace H : (if t103 = true then ((spec_l10Fields.f kj3 l2).bind fun t104 => (spec_l11Ask.j1 kj3 l1 l2 (!t104) l0_0)) else (spec_l11Ask.j1 kj3 l1 l2 true l0_0)) = some r := H
      have A13 := am_ A130
      clear A130
      by_cases c14 : t103 = true
      ·
       subst c14
       have H1 : ((spec_l10Fields.f kj3 l2).bind fun t104 => (spec_l11Ask.j1 kj3 l1 l2 (!t104) l0_0)) = some r := by rw [if_pos rfl] at H; exact H
       clear H
       have H := H1
       clear H1
       replace H := Option.bind_eq_some_iff.mp H
       obtain ⟨t104, A150, H⟩ := H
       replace H : (spec_l11Ask.j1 kj3 l1 l2 (!t104) l0_0) = some r := H
       have A15 := am_ A150
       clear A150
       have H' := am_ H
       clear H
       go_wp2_with (first | ((with_reducible refine gate_callee (f := 50) rfl ?_); refine goesL_ (some 22) rfl rfl Try.func50 (by kernel_rfl) rfl #[.slice A1 l1.length c1] rfl qz9_ ?_; (with_reducible refine (spec_l10Fields.calls kj3 _ _ l1 true _ ?side1 ?side2 A13.out).mono ?_); (case side1 => exact qc_ (Kd.C_below HR1.out HB.out)); (case side2 => exact HC1.out); rintro e w' ⟨rfl, ⟨nd, rfl⟩⟩; refine ⟨_, rfl, ?_⟩) | (go_at_call 50; (with_reducible refine (spec_l10Fields.calls kj3 _ _ l2 t104 _ ?side1 ?side2 A15.out).mono ?_); (case side1 => repeat (first | exact (Kd.C_below HR2.out qz10_) | (with_reducible refine Kd.C_alloc ?_ _) | (with_reducible refine Kd.C_drewN ?_ _) | (with_reducible refine Kd.C_drew ?_))); (case side2 => exact HC2.out); rintro e w' ⟨rfl, ⟨nd, rfl⟩⟩))
       go_meet
       case rel => exact ⟨_, (!t104), qz2_, H', ⟨(by have := HJ3.out; first | omega | exact Nat.le_refl _)⟩, ⟨qz11_⟩, ⟨qz10_⟩⟩
      ·
       replace c14 := Bool.eq_false_iff.mpr c14
       subst c14
       have H1 : (spec_l11Ask.j1 kj3 l1 l2 true l0_0) = some r := by rw [if_neg (show ¬ (false = true) by decide)] at H; exact H
       clear H
       have H := H1
       clear H1
       have H' := am_ H
       clear H
       go_wp2_with (first | ((with_reducible refine gate_callee (f := 50) rfl ?_); refine goesL_ (some 22) rfl rfl Try.func50 (by kernel_rfl) rfl #[.slice A1 l1.length c1] rfl qz9_ ?_; (with_reducible refine (spec_l10Fields.calls kj3 _ _ l1 false _ ?side1 ?side2 A13.out).mono ?_); (case side1 => exact qc_ (Kd.C_below HR1.out HB.out)); (case side2 => exact HC1.out); rintro e w' ⟨rfl, ⟨nd, rfl⟩⟩; refine ⟨_, rfl, ?_⟩))
       go_meet
       case rel => exact ⟨_, (true), qz2_, H', ⟨(by have := HJ3.out; first | omega | exact Nat.le_refl _)⟩, ⟨qz11_⟩, ⟨qz10_⟩⟩
     case rest =>
      clear HC10
      try clear c1
      try clear c2
      try clear p2
      try clear c5
      try clear c6
      try clear c6b0
      try clear c6b1
      try clear c7
      try clear c9
      try clear c14
      try clear hcz11_0
      try clear hfz11_0
      try clear p2
      obtain ⟨kq, x20_9, rfl, HA, HJ9, BK101, HB⟩ := hcut
      cases kq with
      | zero => exact absurd HA.out (by simp [spec_l11Ask.j1])
      | succ kj9 =>
       have H := HA.out
       clear HA
       simp only [spec_l11Ask.j1] at H
       by_cases c16 : x20_9 = true
       ·
        subst c16
        have H1 : (some 1) = some r := by rw [if_pos rfl] at H; exact H
        clear H
        have H := H1
        clear H1
        obtain rfl := Option.some.inj H
        go_wp2
        go_ret
        exact ⟨qz5_, qz10_⟩
       ·
        replace c16 := Bool.eq_false_iff.mpr c16
        subst c16
        have H1 : ((spec_l11Count.f kj9 l0_0 2).bind fun t105 => (if (l1.length : Int) = t105 then ((spec_l11Count.f kj9 l0_0 1).bind fun t106 => (if (l2.length : Int) = t106 then (some 0) else (some 8))) else (some 8))) = some r := by rw [if_neg (show ¬ (false = true) by decide)] at H; exact H
        clear H
        have H := H1
        clear H1
        replace H := Option.bind_eq_some_iff.mp H
        obtain ⟨t105, A170, H⟩ := H
        replace H : (if (l1.length : Int) = t105 then ((spec_l11Count.f kj9 l0_0 1).bind fun t106 => (if (l2.length : Int) = t106 then (some 0) else (some 8))) else (some 8)) = some r := H
        have A17 := am_ A170
        clear A170
        by_cases c18 : (l1.length : Int) = t105
        ·
         rw [if_pos c18] at H
         have c18b0 : ((l1.length : Int) == t105) = true := beq_iff_eq.mpr c18
         have c18b1 : ((l1.length : Int) != t105) = false := bne_eq_false_iff_eq.mpr c18
         clear c18
         replace H := Option.bind_eq_some_iff.mp H
         obtain ⟨t106, A190, H⟩ := H
         replace H : (if (l2.length : Int) = t106 then (some 0) else (some 8)) = some r := H
         have A19 := am_ A190
         clear A190
         by_cases c20 : (l2.length : Int) = t106
         ·
          rw [if_pos c20] at H
          have c20b0 : ((l2.length : Int) == t106) = true := beq_iff_eq.mpr c20
          have c20b1 : ((l2.length : Int) != t106) = false := bne_eq_false_iff_eq.mpr c20
          clear c20
          obtain rfl := Option.some.inj H
          have hcz21_0 : wc.cell? ⟨gb101, 0, none⟩ = some (.slice A0_0 l0_0.length c0_0) := (blk_cell BK101.out 0).trans rfl
          have hfz21_0 := blk_frozen BK101.out 0
          go_wp2_with (first | ((with_reducible refine gate_callee (f := 92) rfl ?_); refine goesL_ (some 33) rfl rfl Try.func92 (by kernel_rfl) rfl #[.agg #[.slice A0_0 l0_0.length c0_0], .int .i64 2] rfl qz9_ ?_; (with_reducible refine (spec_l11Count.calls kj9 _ _ l0_0 2 t105 _ ?side1 ?side2 A17.out).mono ?_); (case side1 => exact qc_ (Kd.C_below HR0_0.out HB.out)); (case side2 => exact HC0_0.out); rintro e w22 ⟨rfl, hb⟩; refine ⟨_, rfl, ?_⟩; have n0_ := am_ (blk_below (g := gb101) (o := .cells #[.slice A0_0 l0_0.length c0_0] 63 (0, 0)) qz11_ hb); have n1_ := am_ (below_step qz10_ hb); clear BK101; clear HB; have BK101 := n0_; have HB := n1_; clear n0_ n1_; (try clear hb); (try clear hb2); (try clear hk); (try clear hi); have hcz23_0 : w22.cell? ⟨gb101, 0, none⟩ = some (.slice A0_0 l0_0.length c0_0) := (blk_cell BK101.out 0).trans rfl; have hfz23_0 := blk_frozen BK101.out 0) | (go_at_call 92; (with_reducible refine (spec_l11Count.calls kj9 _ _ l0_0 1 t106 _ ?side1 ?side2 A19.out).mono ?_); (case side1 => exact qc_ (Kd.C_below HR0_0.out HB.out)); (case side2 => exact HC0_0.out); rintro e w24 ⟨rfl, hb⟩; have n0_ := am_ (blk_below (g := gb101) (o := .cells #[.slice A0_0 l0_0.length c0_0] 63 (0, 0)) qz11_ hb); have n1_ := am_ (below_step qz10_ hb); clear BK101; clear HB; have BK101 := n0_; have HB := n1_; clear n0_ n1_; (try clear hb); (try clear hb2); (try clear hk); (try clear hi)))
          go_ret
          exact ⟨qz5_, qz10_⟩
         ·
          rw [if_neg c20] at H
          have c20b0 : ((l2.length : Int) == t106) = false := beq_eq_false_iff_ne.mpr c20
          have c20b1 : ((l2.length : Int) != t106) = true := bne_iff_ne.mpr c20
          obtain rfl := Option.some.inj H
          have hcz25_0 : wc.cell? ⟨gb101, 0, none⟩ = some (.slice A0_0 l0_0.length c0_0) := (blk_cell BK101.out 0).trans rfl
          have hfz25_0 := blk_frozen BK101.out 0
          go_wp2_with (first | ((with_reducible refine gate_callee (f := 92) rfl ?_); refine goesL_ (some 33) rfl rfl Try.func92 (by kernel_rfl) rfl #[.agg #[.slice A0_0 l0_0.length c0_0], .int .i64 2] rfl qz9_ ?_; (with_reducible refine (spec_l11Count.calls kj9 _ _ l0_0 2 t105 _ ?side1 ?side2 A17.out).mono ?_); (case side1 => exact qc_ (Kd.C_below HR0_0.out HB.out)); (case side2 => exact HC0_0.out); rintro e w26 ⟨rfl, hb⟩; refine ⟨_, rfl, ?_⟩; have n0_ := am_ (blk_below (g := gb101) (o := .cells #[.slice A0_0 l0_0.length c0_0] 63 (0, 0)) qz11_ hb); have n1_ := am_ (below_step qz10_ hb); clear BK101; clear HB; have BK101 := n0_; have HB := n1_; clear n0_ n1_; (try clear hb); (try clear hb2); (try clear hk); (try clear hi); have hcz27_0 : w26.cell? ⟨gb101, 0, none⟩ = some (.slice A0_0 l0_0.length c0_0) := (blk_cell BK101.out 0).trans rfl; have hfz27_0 := blk_frozen BK101.out 0) | (go_at_call 92; (with_reducible refine (spec_l11Count.calls kj9 _ _ l0_0 1 t106 _ ?side1 ?side2 A19.out).mono ?_); (case side1 => exact qc_ (Kd.C_below HR0_0.out HB.out)); (case side2 => exact HC0_0.out); rintro e w28 ⟨rfl, hb⟩; have n0_ := am_ (blk_below (g := gb101) (o := .cells #[.slice A0_0 l0_0.length c0_0] 63 (0, 0)) qz11_ hb); have n1_ := am_ (below_step qz10_ hb); clear BK101; clear HB; have BK101 := n0_; have HB := n1_; clear n0_ n1_; (try clear hb); (try clear hb2); (try clear hk); (try clear hi)))
          go_ret
          exact ⟨qz5_, qz10_⟩
        ·
         rw [if_neg c18] at H
         have c18b0 : ((l1.length : Int) == t105) = false := beq_eq_false_iff_ne.mpr c18
         have c18b1 : ((l1.length : Int) != t105) = true := bne_iff_ne.mpr c18
         obtain rfl := Option.some.inj H
         have hcz29_0 : wc.cell? ⟨gb101, 0, none⟩ = some (.slice A0_0 l0_0.length c0_0) := (blk_cell BK101.out 0).trans rfl
         have hfz29_0 := blk_frozen BK101.out 0
         go_wp2_with (first | ((with_reducible refine gate_callee (f := 92) rfl ?_); refine goesL_ (some 33) rfl rfl Try.func92 (by kernel_rfl) rfl #[.agg #[.slice A0_0 l0_0.length c0_0], .int .i64 2] rfl qz9_ ?_; (with_reducible refine (spec_l11Count.calls kj9 _ _ l0_0 2 t105 _ ?side1 ?side2 A17.out).mono ?_); (case side1 => exact qc_ (Kd.C_below HR0_0.out HB.out)); (case side2 => exact HC0_0.out); rintro e w30 ⟨rfl, hb⟩; refine ⟨_, rfl, ?_⟩; have n0_ := am_ (blk_below (g := gb101) (o := .cells #[.slice A0_0 l0_0.length c0_0] 63 (0, 0)) qz11_ hb); have n1_ := am_ (below_step qz10_ hb); clear BK101; clear HB; have BK101 := n0_; have HB := n1_; clear n0_ n1_; (try clear hb); (try clear hb2); (try clear hk); (try clear hi)))
         go_ret
         exact ⟨qz5_, qz10_⟩
    ·
     replace c9 := Bool.eq_false_iff.mpr c9
     subst c9
     have H1 : (some 19) = some r := by rw [if_neg (show ¬ (false = true) by decide)] at H; exact H
     clear H
     have H := H1
     clear H1
     obtain rfl := Option.some.inj H
     have hcz31_0 : wc.cell? ⟨gb101, 0, none⟩ = some (.slice A0_0 l0_0.length c0_0) := (blk_cell BK101.out 0).trans rfl
     have hfz31_0 := blk_frozen BK101.out 0
     go_wp2_with (first | ((with_reducible refine gate_callee (f := 91) rfl ?_); refine goesL_ (some 18) rfl rfl Try.func91 (by kernel_rfl) rfl #[.agg #[.slice A0_0 l0_0.length c0_0]] rfl qz9_ ?_; (with_reducible refine (spec_CircuitOK.calls kj3 _ _ l0_0 false _ ?side1 ?side2 A8.out).mono ?_); (case side1 => exact qc_ (Kd.C_below HR0_0.out HB.out)); (case side2 => exact HC0_0.out); rintro e w32 ⟨rfl, hb⟩; refine ⟨_, rfl, ?_⟩; have n0_ := am_ (blk_below (g := gb101) (o := .cells #[.slice A0_0 l0_0.length c0_0] 63 (0, 0)) qz11_ hb); have n1_ := am_ (below_step qz10_ hb); clear BK101; clear HB; have BK101 := n0_; have HB := n1_; clear n0_ n1_; (try clear hb); (try clear hb2); (try clear hk); (try clear hi)))
     go_ret
     exact ⟨qz5_, qz10_⟩


/-! ### spec_l01Mul: function 87 -/
def spec_l01Mul.f (a0 : Int) (a1 : Int) : Option (Int) := some (Int.tmod (wrap64 (a0 * a1)) 2130706433)
set_option maxHeartbeats 8000000 in
set_option maxRecDepth 100000 in
theorem spec_l01Mul.calls (a0 : Int) (a1 : Int) (r : Int) (w : World) (h : spec_l01Mul.f a0 a1 = some r) :
  Calls Try.prog 87 #[.int .i64 a0, .int .i64 a1] w fun e w' => e = .returned (.int .i64 r) ∧ Drawn0 w w' := by
 have H : (some (Int.tmod (wrap64 (a0 * a1)) 2130706433)) = some r := h
 clear h
 obtain rfl := Option.some.inj H
 go_enter Try.func87, Try.ntmps87
 go_wp2
 go_ret
 exact ⟨qz2_, qz6_⟩


/-! ### spec_l01Add: function 93 -/
def spec_l01Add.f (a0 : Int) (a1 : Int) : Option (Int) := some (Int.tmod (wrap64 (a0 + a1)) 2130706433)
set_option maxHeartbeats 8000000 in
set_option maxRecDepth 100000 in
theorem spec_l01Add.calls (a0 : Int) (a1 : Int) (r : Int) (w : World) (h : spec_l01Add.f a0 a1 = some r) :
  Calls Try.prog 93 #[.int .i64 a0, .int .i64 a1] w fun e w' => e = .returned (.int .i64 r) ∧ Drawn0 w w' := by
 have H : (some (Int.tmod (wrap64 (a0 + a1)) 2130706433)) = some r := h
 clear h
 obtain rfl := Option.some.inj H
 go_enter Try.func93, Try.ntmps93
 go_wp2
 go_ret
 exact ⟨qz2_, qz6_⟩


/-! ### spec_l01Sub: function 94 -/
def spec_l01Sub.f (a0 : Int) (a1 : Int) : Option (Int) := some (Int.tmod (wrap64 ((wrap64 (a0 + 2130706433)) - a1)) 2130706433)
set_option maxHeartbeats 8000000 in
set_option maxRecDepth 100000 in
theorem spec_l01Sub.calls (a0 : Int) (a1 : Int) (r : Int) (w : World) (h : spec_l01Sub.f a0 a1 = some r) :
  Calls Try.prog 94 #[.int .i64 a0, .int .i64 a1] w fun e w' => e = .returned (.int .i64 r) ∧ Drawn0 w w' := by
 have H : (some (Int.tmod (wrap64 ((wrap64 (a0 + 2130706433)) - a1)) 2130706433)) = some r := h
 clear h
 obtain rfl := Option.some.inj H
 go_enter Try.func94, Try.ntmps94
 go_wp2
 go_ret
 exact ⟨qz2_, qz6_⟩

end Go.Proofs.Ytekijbcblajjbaa.PT
end
section
namespace Go.Proofs.Ytekijbcblajjbaa.PT
open Go.RowKit Go.Proofs.YtekijbcblajjbaaW.PrintWords Go.Proofs.YtekijbcblajjbaaW.PrintLast Go.Proofs.YtekijbcblajjbaaW.PrintMore
attribute [local go_sem] max2_int min2_int max_two min_two max_three min_three max_four min_four   -- for this text's walks alone
set_option linter.unusedVariables false
set_option linter.unusedSimpArgs false

/-! ### spec_l11Run: function 70 -/
def spec_l11Run.l0 : Nat → List Int → List Int → List Int → Int → Int → Int → List (S115) → Option (List Int)
 | 0, _, _, _, _, _, _, _ => none
 | k + 1, x1, x2, x7, x8, x9, x10, x102000 => if x10 < (x102000.length : Int) then (if 0 ≤ x10 then (if ((rd_T115 x102000 x10).f0) = 1 then (if 0 ≤ x9 then (if x9 < (x2.length : Int) then (if x7.length < 17592186044416 then (spec_l11Run.l0 k x1 x2 (x7 ++ [rd x2 x9]) x8 (wrap64 (x9 + 1)) (wrap64 (x10 + 1)) x102000) else (none)) else (none)) else (none)) else (if ((rd_T115 x102000 x10).f0) = 2 then (if 0 ≤ x8 then (if x8 < (x1.length : Int) then (if x7.length < 17592186044416 then (spec_l11Run.l0 k x1 x2 (x7 ++ [rd x1 x8]) (wrap64 (x8 + 1)) x9 (wrap64 (x10 + 1)) x102000) else (none)) else (none)) else (none)) else (if ((rd_T115 x102000 x10).f0) = 3 then (if x7.length < 17592186044416 then (spec_l11Run.l0 k x1 x2 (x7 ++ [(rd_T115 x102000 x10).f3]) x8 x9 (wrap64 (x10 + 1)) x102000) else (none)) else (if ((rd_T115 x102000 x10).f0) = 4 then (if 0 ≤ ((rd_T115 x102000 x10).f1) then (if ((rd_T115 x102000 x10).f1) < (x7.length : Int) then (if 0 ≤ ((rd_T115 x102000 x10).f2) then (if ((rd_T115 x102000 x10).f2) < (x7.length : Int) then ((spec_l01Add.f (rd x7 ((rd_T115 x102000 x10).f1)) (rd x7 ((rd_T115 x102000 x10).f2))).bind fun t120 => (if x7.length < 17592186044416 then (spec_l11Run.l0 k x1 x2 (x7 ++ [t120]) x8 x9 (wrap64 (x10 + 1)) x102000) else (none))) else (none)) else (none)) else (none)) else (none)) else (if ((rd_T115 x102000 x10).f0) = 5 then (if 0 ≤ ((rd_T115 x102000 x10).f1) then (if ((rd_T115 x102000 x10).f1) < (x7.length : Int) then (if 0 ≤ ((rd_T115 x102000 x10).f2) then (if ((rd_T115 x102000 x10).f2) < (x7.length : Int) then ((spec_l01Sub.f (rd x7 ((rd_T115 x102000 x10).f1)) (rd x7 ((rd_T115 x102000 x10).f2))).bind fun t126 => (if x7.length < 17592186044416 then (spec_l11Run.l0 k x1 x2 (x7 ++ [t126]) x8 x9 (wrap64 (x10 + 1)) x102000) else (none))) else (none)) else (none)) else (none)) else (none)) else (if ((rd_T115 x102000 x10).f0) = 6 then (if 0 ≤ ((rd_T115 x102000 x10).f1) then (if ((rd_T115 x102000 x10).f1) < (x7.length : Int) then (if 0 ≤ ((rd_T115 x102000 x10).f2) then (if ((rd_T115 x102000 x10).f2) < (x7.length : Int) then ((spec_l01Mul.f (rd x7 ((rd_T115 x102000 x10).f1)) (rd x7 ((rd_T115 x102000 x10).f2))).bind fun t132 => (if x7.length < 17592186044416 then (spec_l11Run.l0 k x1 x2 (x7 ++ [t132]) x8 x9 (wrap64 (x10 + 1)) x102000) else (none))) else (none)) else (none)) else (none)) else (none)) else (if 0 ≤ ((rd_T115 x102000 x10).f1) then (if ((rd_T115 x102000 x10).f1) < (x7.length : Int) then (if x7.length < 17592186044416 then (spec_l11Run.l0 k x1 x2 (x7 ++ [rd x7 ((rd_T115 x102000 x10).f1)]) x8 x9 (wrap64 (x10 + 1)) x102000) else (none)) else (none)) else (none)))))))) else (none)) else (some x7)
def spec_l11Run.f (k : Nat) (l0_0 : List (S115)) (l1 : List Int) (l2 : List Int) : Option (List Int) := spec_l11Run.l0 k l1 l2 (([] : List Int)) 0 0 0 l0_0
theorem spec_l11Run.mono_l : ∀ k, (∀ y0 y1 y2 y3 y4 y5 y6, LeO (spec_l11Run.l0 k y0 y1 y2 y3 y4 y5 y6) (spec_l11Run.l0 (k + 1) y0 y1 y2 y3 y4 y5 y6))
 | 0 => fun _ _ _ _ _ _ _ r h => by simp [spec_l11Run.l0] at h
 | k + 1 => by
  have ih0 := spec_l11Run.mono_l k
  ·
   intro y0 y1 y2 y3 y4 y5 y6
   unfold spec_l11Run.l0
   repeat' first
   | (with_reducible exact ih0 _ _ _ _ _ _ _)
   | (with_reducible exact LeO.refl _)
   | (with_reducible exact LeO.none _)
   | (with_reducible refine LeO.ite ?_ ?_)
   | (with_reducible refine LeO.bind ?_ (fun _ => ?_))
   | exact ih0 _ _ _ _ _ _ _
   | exact LeO.none _
   | refine LeO.ite ?_ ?_
   | refine LeO.bind ?_ (fun _ => ?_)
theorem spec_l11Run.mono : ∀ a0 a1 a2 k, LeO (spec_l11Run.f k a0 a1 a2) (spec_l11Run.f (k + 1) a0 a1 a2) := by
 intro a0 a1 a2 k
 have ih0 := spec_l11Run.mono_l k
 unfold spec_l11Run.f
 repeat' first
   | (with_reducible exact ih0 _ _ _ _ _ _ _)
   | (with_reducible exact LeO.refl _)
   | (with_reducible exact LeO.none _)
   | (with_reducible refine LeO.ite ?_ ?_)
   | (with_reducible refine LeO.bind ?_ (fun _ => ?_))
   | exact ih0 _ _ _ _ _ _ _
   | exact LeO.none _
   | refine LeO.ite ?_ ?_
   | refine LeO.bind ?_ (fun _ => ?_)
set_option maxHeartbeats 8000000 in
set_option maxRecDepth 100000 in
theorem spec_l11Run.calls (k : Nat) (A0_0 : Option Addr) (c0_0 : Nat) (l0_0 : List (S115)) (A1 : Option Addr) (c1 : Nat) (l1 : List Int) (A2 : Option Addr) (c2 : Nat) (l2 : List Int) (r : List Int) (w : World) (hr0_0 : Kd.C k115 w A0_0 l0_0.length l0_0) (hc0_0 : l0_0.length ≤ c0_0) (hr1 : Kd.C (Kd.int .i64) w A1 l1.length l1) (hc1 : l1.length ≤ c1) (hr2 : Kd.C (Kd.int .i64) w A2 l2.length l2) (hc2 : l2.length ≤ c2) (h : spec_l11Run.f k l0_0 l1 l2 = some r) :
  Calls Try.prog 70 #[.agg #[.slice A0_0 l0_0.length c0_0], .slice A1 l1.length c1, .slice A2 l2.length c2] w fun e w' => ∃ v0_ : Value, e = .returned (v0_) ∧ Kd.R (Kd.int .i64) 3 w' w.heap.size (fun _ => True) v0_ r ∧ Below w.heap.size w w' := by
 have hu63 := Try.underlying63
 have hu115 := Try.underlying115
 have HR0_0 := am_ hr0_0
 have HC0_0 := am_ hc0_0
 clear hr0_0 hc0_0
 have HR1 := am_ hr1
 have HC1 := am_ hc1
 clear hr1 hc1
 have HR2 := am_ hr2
 have HC2 := am_ hc2
 clear hr2 hc2
 have HB := am_ (Below.refl w.heap.size w)
 have H : (spec_l11Run.l0 k l1 l2 (([] : List Int)) 0 0 0 l0_0) = some r := h
 clear h
 obtain ⟨y102, hy102⟩ : ∃ y_ : List Int, y_ = (([] : List Int)) := ⟨_, rfl⟩
 replace H : (spec_l11Run.l0 k l1 l2 y102 0 0 0 l0_0) = some r := by first | (rw [hy102]; with_reducible exact H) | (have H2_ := (Option.bind_some _ _).symm.trans H; rw [hy102]; with_reducible exact H2_) | (have H2_ := (Option.bind_some _ _).symm.trans H; with_reducible exact H2_) | with_reducible exact H | (rw [hy102]; exact H) | exact H
 have Ny102 := am_ hy102
 clear hy102
 have H' := am_ H
 clear H
 go_enter Try.func70, Try.ntmps70
 go_wp2_with (first | ((with_reducible refine gate_dst (N := 3) rfl ?_); refine box_event ?hg (N := 3) ?hd (cs := #[.slice A0_0 l0_0.length c0_0]) (t := 63) ?hr ?_; (case hd => rfl); (case hg => rfl); (case hr => first | (go_simp; done) | (go_simp; rfl)); intro gb101 hg w4 hbox hb; have n0_ := am_ (below_step qz1_ hb); have n1_ := am_ (hbox); have n2_ := am_ ((by rw [hg]; exact (below_size qz1_) : w.heap.size ≤ gb101)); have n3_ := am_ ((by rw [hg]; exact (below_size qz1_) : w.heap.size ≤ gb101)); clear HB; have HB := n0_; have BK101 := n1_; have GW101 := n2_; have GE101 := n3_; clear n0_ n1_ n2_ n3_; clear hb hbox hg) | ((with_reducible refine gate_dst (N := 13) rfl ?_); refine Kd.R_lit (Kd.int .i64) _ 3 ?hg (N := 13) ?hd (xs := ([] : List Int)) (inner := []) (ok := fun _ => True) (okp := fun _ => True) ?hr ?hp (fun _ hk => hk) trivial (Below.refl _ _) (Nat.le_refl _) (by simp) ?_; (case hd => rfl); (case hg => rfl); (case hr => first | (go_simp; done) | (go_simp; rfl)); (case hp => exact (Reps.none _ _)); intro v103 w5 ho6 hb hg_ hnew_; clear hg_ hnew_; (first | rw [← Ny102.out] at ho6 | (simp only [Int.reduceToNat] at ho6; rw [← Ny102.out] at ho6)); have n0_ := am_ (Kd.R_lower ho6 (below_size qz10_)); have n1_ := am_ (blk_below (g := gb101) (o := .cells #[.slice A0_0 l0_0.length c0_0] 63 (0, 0)) qz11_ hb); have n2_ := am_ (below_step qz10_ hb); clear BK101; clear HB; have HO104 := n0_; have BK101 := n1_; have HB := n2_; clear n0_ n1_ n2_; clear hb ho6))
 repeat (go_quiet (first | ((with_reducible refine gate_dst (N := 3) rfl ?_); refine box_event ?hg (N := 3) ?hd (cs := #[.slice A0_0 l0_0.length c0_0]) (t := 63) ?hr ?_; (case hd => rfl); (case hg => rfl); (case hr => first | (go_simp; done) | (go_simp; rfl)); intro gb101 hg w4 hbox hb; have n0_ := am_ (below_step qz1_ hb); have n1_ := am_ (hbox); have n2_ := am_ ((by rw [hg]; exact (below_size qz1_) : w.heap.size ≤ gb101)); have n3_ := am_ ((by rw [hg]; exact (below_size qz1_) : w.heap.size ≤ gb101)); clear HB; have HB := n0_; have BK101 := n1_; have GW101 := n2_; have GE101 := n3_; clear n0_ n1_ n2_ n3_; clear hb hbox hg) | ((with_reducible refine gate_dst (N := 13) rfl ?_); refine Kd.R_lit (Kd.int .i64) _ 3 ?hg (N := 13) ?hd (xs := ([] : List Int)) (inner := []) (ok := fun _ => True) (okp := fun _ => True) ?hr ?hp (fun _ hk => hk) trivial (Below.refl _ _) (Nat.le_refl _) (by simp) ?_; (case hd => rfl); (case hg => rfl); (case hr => first | (go_simp; done) | (go_simp; rfl)); (case hp => exact (Reps.none _ _)); intro v103 w5 ho6 hb hg_ hnew_; clear hg_ hnew_; (first | rw [← Ny102.out] at ho6 | (simp only [Int.reduceToNat] at ho6; rw [← Ny102.out] at ho6)); have n0_ := am_ (Kd.R_lower ho6 (below_size qz10_)); have n1_ := am_ (blk_below (g := gb101) (o := .cells #[.slice A0_0 l0_0.length c0_0] 63 (0, 0)) qz11_ hb); have n2_ := am_ (below_step qz10_ hb); clear BK101; clear HB; have HO104 := n0_; have BK101 := n1_; have HB := n2_; clear n0_ n1_ n2_; clear hb ho6)); try go_wp2_with (first | ((with_reducible refine gate_dst (N := 3) rfl ?_); refine box_event ?hg (N := 3) ?hd (cs := #[.slice A0_0 l0_0.length c0_0]) (t := 63) ?hr ?_; (case hd => rfl); (case hg => rfl); (case hr => first | (go_simp; done) | (go_simp; rfl)); intro gb101 hg w4 hbox hb; have n0_ := am_ (below_step qz1_ hb); have n1_ := am_ (hbox); have n2_ := am_ ((by rw [hg]; exact (below_size qz1_) : w.heap.size ≤ gb101)); have n3_ := am_ ((by rw [hg]; exact (below_size qz1_) : w.heap.size ≤ gb101)); clear HB; have HB := n0_; have BK101 := n1_; have GW101 := n2_; have GE101 := n3_; clear n0_ n1_ n2_ n3_; clear hb hbox hg) | ((with_reducible refine gate_dst (N := 13) rfl ?_); refine Kd.R_lit (Kd.int .i64) _ 3 ?hg (N := 13) ?hd (xs := ([] : List Int)) (inner := []) (ok := fun _ => True) (okp := fun _ => True) ?hr ?hp (fun _ hk => hk) trivial (Below.refl _ _) (Nat.le_refl _) (by simp) ?_; (case hd => rfl); (case hg => rfl); (case hr => first | (go_simp; done) | (go_simp; rfl)); (case hp => exact (Reps.none _ _)); intro v103 w5 ho6 hb hg_ hnew_; clear hg_ hnew_; (first | rw [← Ny102.out] at ho6 | (simp only [Int.reduceToNat] at ho6; rw [← Ny102.out] at ho6)); have n0_ := am_ (Kd.R_lower ho6 (below_size qz10_)); have n1_ := am_ (blk_below (g := gb101) (o := .cells #[.slice A0_0 l0_0.length c0_0] 63 (0, 0)) qz11_ hb); have n2_ := am_ (below_step qz10_ hb); clear BK101; clear HB; have HO104 := n0_; have BK101 := n1_; have HB := n2_; clear n0_ n1_ n2_; clear hb ho6)))
 go_loopg [7, 8, 9, 10] k (fun kq v7 v8 v9 v10 w' => ∃ (x7_1 : List Int) (x8_1 : Int) (x9_1 : Int) (x10_1 : Int), v8 = .int .i64 x8_1 ∧ v9 = .int .i64 x9_1 ∧ v10 = .int .i64 x10_1 ∧ Aside0 (spec_l11Run.l0 kq l1 l2 x7_1 x8_1 x9_1 x10_1 l0_0 = some r) ∧ Aside0 (kq ≤ k) ∧ Aside0 (Kd.R (Kd.int .i64) 3 w' w.heap.size (fun _ => True) v7 x7_1) ∧ Aside0 (w'.heap[gb101]? = some (.cells #[(.slice A0_0 l0_0.length c0_0)] 63 (0, 0))) ∧ Aside0 (Below w.heap.size w w'))
 case atStart => exact ⟨(y102), (0), (0), (0), qz2_, qz2_, qz2_, H', ⟨Nat.le_refl _⟩, ⟨qz15_⟩, ⟨qz11_⟩, ⟨qz10_⟩⟩
 case round =>
  clear H'
  try clear c1
  try clear c2
  try clear p2
  obtain ⟨x7_1, x8_1, x9_1, x10_1, rfl, rfl, rfl, HA, HK1, HO_7, BK101, HB⟩ := hrel
  cases gk with
  | zero => exact absurd HA.out (by simp [spec_l11Run.l0])
  | succ k1 =>
   have H := HA.out
   clear HA
   simp only [spec_l11Run.l0] at H
   by_cases c7 : x10_1 < (l0_0.length : Int)
   ·
    rw [if_pos c7] at H
    have c7b0 : decide (x10_1 < (l0_0.length : Int)) = true := decide_eq_true c7
    clear c7
    by_cases c8 : 0 ≤ x10_1
    ·
     rw [if_pos c8] at H
     have c8b0 : decide (0 ≤ x10_1) = true := decide_eq_true c8
     clear c8
     by_cases c9 : ((rd_T115 l0_0 x10_1).f0) = 1
     ·
      rw [if_pos c9] at H
      have c9b0 : (((rd_T115 l0_0 x10_1).f0) == 1) = true := beq_iff_eq.mpr c9
      have c9b1 : (((rd_T115 l0_0 x10_1).f0) != 1) = false := bne_eq_false_iff_eq.mpr c9
      clear c9
      by_cases c10 : 0 ≤ x9_1
      ·
       rw [if_pos c10] at H
       have c10b0 : decide (0 ≤ x9_1) = true := decide_eq_true c10
       clear c10
       by_cases c11 : x9_1 < (l2.length : Int)
       ·
        rw [if_pos c11] at H
        have c11b0 : decide (x9_1 < (l2.length : Int)) = true := decide_eq_true c11
        clear c11
        by_cases c12 : x7_1.length < 17592186044416
        ·
         rw [if_pos c12] at H
         have LMc12 := am_ c12
         clear c12
         obtain ⟨y108, hy108⟩ : ∃ y_ : List Int, y_ = (x7_1 ++ [rd l2 x9_1]) := ⟨_, rfl⟩
         replace H : (spec_l11Run.l0 k1 l1 l2 y108 x8_1 (wrap64 (x9_1 + 1)) (wrap64 (x10_1 + 1)) l0_0) = some r := by first | (rw [hy108]; with_reducible exact H) | (have H2_ := (Option.bind_some _ _).symm.trans H; rw [hy108]; with_reducible exact H2_) | (have H2_ := (Option.bind_some _ _).symm.trans H; with_reducible exact H2_) | with_reducible exact H | (rw [hy108]; exact H) | exact H
         have Ny108 := am_ hy108
         clear hy108
         have H' := am_ H
         clear H
         have hcz13_0 : wr.cell? ⟨gb101, 0, none⟩ = some (.slice A0_0 l0_0.length c0_0) := (blk_cell BK101.out 0).trans rfl
         have hfz13_0 := blk_frozen BK101.out 0
         have p105 : 0 ≤ (x10_1 : Int) := of_decide_eq_true qz0_
         have q105 : x10_1 < (l0_0.length : Int) := of_decide_eq_true qz0_
         obtain ⟨ad105, e105, hx105_0, hx105_1, hx105_2, hx105_3⟩ := at_T115 HR0_0.out x10_1 p105 q105
         cases e105
         replace hx105_0 := (HB.out.cell (World.block_lt_of_cell? w _ hx105_0)).trans hx105_0
         replace hx105_1 := (HB.out.cell (World.block_lt_of_cell? w _ hx105_1)).trans hx105_1
         replace hx105_2 := (HB.out.cell (World.block_lt_of_cell? w _ hx105_2)).trans hx105_2
         replace hx105_3 := (HB.out.cell (World.block_lt_of_cell? w _ hx105_3)).trans hx105_3
         replace p105 := eq_true p105
         replace q105 := eq_true q105
         go_wp2_with (first | ((with_reducible refine gate_dst (N := 11) rfl ?_); refine box_event ?hg (N := 11) ?hd (cs := #[.int .i64 0, .int .i64 0, .int .i64 0, .int .i64 0]) (t := 115) ?hr ?_; (case hd => rfl); (case hg => rfl); (case hr => first | (go_simp; done) | (go_simp; rfl)); intro gb106 hg w14 hbox hb; have n0_ := am_ (Kd.R_below qz16_ hb); have n1_ := am_ (blk_below (g := gb101) (o := .cells #[.slice (some ad105) l0_0.length c0_0] 63 (0, 0)) qz11_ hb); have n2_ := am_ (below_step qz10_ hb); have n3_ := am_ (hbox); have n4_ := am_ ((by rw [hg]; exact (below_size qz10_) : w.heap.size ≤ gb106)); have n5_ := am_ ((by rw [hg]; exact (below_size qz10_) : w.heap.size ≤ gb106)); have n6_ := am_ ((by rw [hg]; exact Nat.ne_of_lt (blk_lt (g := gb101) (o := .cells #[.slice (some ad105) l0_0.length c0_0] 63 (0, 0)) qz11_) : gb101 ≠ gb106)); have n7_ := am_ ((by rw [hg]; exact Nat.ne_of_gt (blk_lt (g := gb101) (o := .cells #[.slice (some ad105) l0_0.length c0_0] 63 (0, 0)) qz11_) : gb106 ≠ gb101)); clear HO_7; clear BK101; clear HB; have HO_7 := n0_; have BK101 := n1_; have HB := n2_; have BK106 := n3_; have GW106 := n4_; have GE106 := n5_; have NB101_106 := n6_; have NB106_101 := n7_; clear n0_ n1_ n2_ n3_ n4_ n5_ n6_ n7_; clear hb hbox hg; have hnb15 := NB106_101.out; have hnc15 := NB101_106.out; have hcz16_0 : w14.cell? ⟨gb106, 0, none⟩ = some (.int .i64 0) := (blk_cell BK106.out 0).trans rfl; have hcz16_1 : w14.cell? ⟨gb106, 1, none⟩ = some (.int .i64 0) := (blk_cell BK106.out 1).trans rfl; have hcz16_2 : w14.cell? ⟨gb106, 2, none⟩ = some (.int .i64 0) := (blk_cell BK106.out 2).trans rfl; have hcz16_3 : w14.cell? ⟨gb106, 3, none⟩ = some (.int .i64 0) := (blk_cell BK106.out 3).trans rfl; have hfz16_0 := blk_frozen BK106.out 0; have hfz16_1 := blk_frozen BK106.out 1; have hfz16_2 := blk_frozen BK106.out 2; have hfz16_3 := blk_frozen BK106.out 3; have p107 : 0 ≤ (x9_1 : Int) := of_decide_eq_true qz0_; have q107 : x9_1 < (l2.length : Int) := of_decide_eq_true qz0_; obtain ⟨ad107, e107, hx107_0⟩ := Kd.at_int HR2.out x9_1 p107 q107; cases e107; have hn107_0 : ad107.block ≠ gb106 := Nat.ne_of_lt (Nat.lt_of_lt_of_le qz17_ GW106.out); have hn107_1 : ad107.block ≠ gb106 := Nat.ne_of_lt (Nat.lt_of_lt_of_le qz17_ GW106.out); have hn107_2 : ad107.block ≠ gb106 := Nat.ne_of_lt (Nat.lt_of_lt_of_le qz17_ GW106.out); have hn107_3 : ad107.block ≠ gb106 := Nat.ne_of_lt (Nat.lt_of_lt_of_le qz17_ GW106.out); replace hx107_0 := (HB.out.cell (World.block_lt_of_cell? w _ hx107_0)).trans hx107_0; replace hx107_0 := (cell_far (p := ⟨gb106, 0, none⟩) qz18_ (.int .i64 ((rd_T115 l0_0 x10_1).f0))).trans hx107_0; replace hx107_0 := (cell_far (p := ⟨gb106, 1, none⟩) qz19_ (.int .i64 ((rd_T115 l0_0 x10_1).f1))).trans hx107_0; replace hx107_0 := (cell_far (p := ⟨gb106, 2, none⟩) qz20_ (.int .i64 ((rd_T115 l0_0 x10_1).f2))).trans hx107_0; replace hx107_0 := (cell_far (p := ⟨gb106, 3, none⟩) qz21_ (.int .i64 ((rd_T115 l0_0 x10_1).f3))).trans hx107_0; (try have hy107_0 := fun (n_ : Nat) => (show ((((((w14.drewN n_).setCell ⟨gb106, 0, none⟩ (.int .i64 ((rd_T115 l0_0 x10_1).f0))).setCell ⟨gb106, 1, none⟩ (.int .i64 ((rd_T115 l0_0 x10_1).f1))).setCell ⟨gb106, 2, none⟩ (.int .i64 ((rd_T115 l0_0 x10_1).f2))).setCell ⟨gb106, 3, none⟩ (.int .i64 ((rd_T115 l0_0 x10_1).f3)))).cell? _ = some _ from hx107_0)); clear hn107_0; clear hn107_1; clear hn107_2; clear hn107_3; replace p107 := eq_true p107; replace q107 := eq_true q107) | ((with_reducible refine gate_builtin (b := .append) (xs := #[.tmp 92, .tmp 94]) rfl ?_); at_builtin; refine Kd.R_append (Kd.int .i64) (w0 := w) w.heap.size rfl (.tmp 92) (.tmp 94) 33 3 (.int .i64 0) 8 rfl Try.underlying33 info3 rfl (by decide) (by omega) u7 x7_1 (rd l2 x9_1) [.int .i64 (rd l2 x9_1)] (fun _ => True) (fun _ => False) rfl qz22_ ?aP (fun _ hk => hk.elim) ?aF ?aO ?aB ?aS ?aL ?_; (case aP => exact rfl); (case aB => exact qz23_); (case aF => exact (fun _ _ => trivial)); (case aO => exact (by (with_reducible repeat (first | apply Kd.R_alloc | apply Kd.R_drewN | apply Kd.R_drew)); exact Kd.R_mono (Kd.R_far (p := ⟨gb106, 3, none⟩) (Kd.R_far (p := ⟨gb106, 2, none⟩) (Kd.R_far (p := ⟨gb106, 1, none⟩) (Kd.R_far (p := ⟨gb106, 0, none⟩) (Kd.R_types HO_7.out BK106.out (by decide)) (fun _ hk => hk.2) (.int .i64 ((rd_T115 l0_0 x10_1).f0))) (fun _ hk => hk.2) (.int .i64 ((rd_T115 l0_0 x10_1).f1))) (fun _ hk => hk.2) (.int .i64 ((rd_T115 l0_0 x10_1).f2))) (fun _ hk => hk.2) (.int .i64 ((rd_T115 l0_0 x10_1).f3))) (fun _ hk => trivial))); (case aS => exact (below_size qz23_)); (case aL => have := LMc12.out; omega); intro v109 w17 ho hb hg hat; rw [← Ny108.out] at ho; have n0_ := am_ (blk_grown (g := gb101) (o := .cells #[.slice (some ad105) l0_0.length c0_0] 63 (0, 0)) qz24_ hg (Kd.R_ne HO_7.out BK101.out (by decide))); have n1_ := am_ (blk_grown (g := gb106) (o := .cells #[.int .i64 ((rd_T115 l0_0 x10_1).f0), .int .i64 ((rd_T115 l0_0 x10_1).f1), .int .i64 ((rd_T115 l0_0 x10_1).f2), .int .i64 ((rd_T115 l0_0 x10_1).f3)] 115 (0, 0)) qz25_ hg (Kd.R_ne HO_7.out BK106.out (by decide))); have n2_ := am_ (hb); have n3_ := am_ (ho); clear BK101; clear BK106; clear HB; clear HO_7; have BK101 := n0_; have BK106 := n1_; have HB := n2_; have HO110 := n3_; clear n0_ n1_ n2_ n3_; clear ho hb hg hat))
         repeat (go_quiet (first | ((with_reducible refine gate_dst (N := 11) rfl ?_); refine box_event ?hg (N := 11) ?hd (cs := #[.int .i64 0, .int .i64 0, .int .i64 0, .int .i64 0]) (t := 115) ?hr ?_; (case hd => rfl); (case hg => rfl); (case hr => first | (go_simp; done) | (go_simp; rfl)); intro gb106 hg w14 hbox hb; have n0_ := am_ (Kd.R_below qz16_ hb); have n1_ := am_ (blk_below (g := gb101) (o := .cells #[.slice (some ad105) l0_0.length c0_0] 63 (0, 0)) qz11_ hb); have n2_ := am_ (below_step qz10_ hb); have n3_ := am_ (hbox); have n4_ := am_ ((by rw [hg]; exact (below_size qz10_) : w.heap.size ≤ gb106)); have n5_ := am_ ((by rw [hg]; exact (below_size qz10_) : w.heap.size ≤ gb106)); have n6_ := am_ ((by rw [hg]; exact Nat.ne_of_lt (blk_lt (g := gb101) (o := .cells #[.slice (some ad105) l0_0.length c0_0] 63 (0, 0)) qz11_) : gb101 ≠ gb106)); have n7_ := am_ ((by rw [hg]; exact Nat.ne_of_gt (blk_lt (g := gb101) (o := .cells #[.slice (some ad105) l0_0.length c0_0] 63 (0, 0)) qz11_) : gb106 ≠ gb101)); clear HO_7; clear BK101; clear HB; have HO_7 := n0_; have BK101 := n1_; have HB := n2_; have BK106 := n3_; have GW106 := n4_; have GE106 := n5_; have NB101_106 := n6_; have NB106_101 := n7_; clear n0_ n1_ n2_ n3_ n4_ n5_ n6_ n7_; clear hb hbox hg; have hnb15 := NB106_101.out; have hnc15 := NB101_106.out; have hcz16_0 : w14.cell? ⟨gb106, 0, none⟩ = some (.int .i64 0) := (blk_cell BK106.out 0).trans rfl; have hcz16_1 : w14.cell? ⟨gb106, 1, none⟩ = some (.int .i64 0) := (blk_cell BK106.out 1).trans rfl; have hcz16_2 : w14.cell? ⟨gb106, 2, none⟩ = some (.int .i64 0) := (blk_cell BK106.out 2).trans rfl; have hcz16_3 : w14.cell? ⟨gb106, 3, none⟩ = some (.int .i64 0) := (blk_cell BK106.out 3).trans rfl; have hfz16_0 := blk_frozen BK106.out 0; have hfz16_1 := blk_frozen BK106.out 1; have hfz16_2 := blk_frozen BK106.out 2; have hfz16_3 := blk_frozen BK106.out 3; have p107 : 0 ≤ (x9_1 : Int) := of_decide_eq_true qz0_; have q107 : x9_1 < (l2.length : Int) := of_decide_eq_true qz0_; obtain ⟨ad107, e107, hx107_0⟩ := Kd.at_int HR2.out x9_1 p107 q107; cases e107; have hn107_0 : ad107.block ≠ gb106 := Nat.ne_of_lt (Nat.lt_of_lt_of_le qz17_ GW106.out); have hn107_1 : ad107.block ≠ gb106 := Nat.ne_of_lt (Nat.lt_of_lt_of_le qz17_ GW106.out); have hn107_2 : ad107.block ≠ gb106 := Nat.ne_of_lt (Nat.lt_of_lt_of_le qz17_ GW106.out); have hn107_3 : ad107.block ≠ gb106 := Nat.ne_of_lt (Nat.lt_of_lt_of_le qz17_ GW106.out); replace hx107_0 := (HB.out.cell (World.block_lt_of_cell? w _ hx107_0)).trans hx107_0; replace hx107_0 := (cell_far (p := ⟨gb106, 0, none⟩) qz18_ (.int .i64 ((rd_T115 l0_0 x10_1).f0))).trans hx107_0; replace hx107_0 := (cell_far (p := ⟨gb106, 1, none⟩) qz19_ (.int .i64 ((rd_T115 l0_0 x10_1).f1))).trans hx107_0; replace hx107_0 := (cell_far (p := ⟨gb106, 2, none⟩) qz20_ (.int .i64 ((rd_T115 l0_0 x10_1).f2))).trans hx107_0; replace hx107_0 := (cell_far (p := ⟨gb106, 3, none⟩) qz21_ (.int .i64 ((rd_T115 l0_0 x10_1).f3))).trans hx107_0; (try have hy107_0 := fun (n_ : Nat) => (show ((((((w14.drewN n_).setCell ⟨gb106, 0, none⟩ (.int .i64 ((rd_T115 l0_0 x10_1).f0))).setCell ⟨gb106, 1, none⟩ (.int .i64 ((rd_T115 l0_0 x10_1).f1))).setCell ⟨gb106, 2, none⟩ (.int .i64 ((rd_T115 l0_0 x10_1).f2))).setCell ⟨gb106, 3, none⟩ (.int .i64 ((rd_T115 l0_0 x10_1).f3)))).cell? _ = some _ from hx107_0)); clear hn107_0; clear hn107_1; clear hn107_2; clear hn107_3; replace p107 := eq_true p107; replace q107 := eq_true q107) | ((with_reducible refine gate_builtin (b := .append) (xs := #[.tmp 92, .tmp 94]) rfl ?_); at_builtin; refine Kd.R_append (Kd.int .i64) (w0 := w) w.heap.size rfl (.tmp 92) (.tmp 94) 33 3 (.int .i64 0) 8 rfl Try.underlying33 info3 rfl (by decide) (by omega) u7 x7_1 (rd l2 x9_1) [.int .i64 (rd l2 x9_1)] (fun _ => True) (fun _ => False) rfl qz22_ ?aP (fun _ hk => hk.elim) ?aF ?aO ?aB ?aS ?aL ?_; (case aP => exact rfl); (case aB => exact qz23_); (case aF => exact (fun _ _ => trivial)); (case aO => exact (by (with_reducible repeat (first | apply Kd.R_alloc | apply Kd.R_drewN | apply Kd.R_drew)); exact Kd.R_mono (Kd.R_far (p := ⟨gb106, 3, none⟩) (Kd.R_far (p := ⟨gb106, 2, none⟩) (Kd.R_far (p := ⟨gb106, 1, none⟩) (Kd.R_far (p := ⟨gb106, 0, none⟩) (Kd.R_types HO_7.out BK106.out (by decide)) (fun _ hk => hk.2) (.int .i64 ((rd_T115 l0_0 x10_1).f0))) (fun _ hk => hk.2) (.int .i64 ((rd_T115 l0_0 x10_1).f1))) (fun _ hk => hk.2) (.int .i64 ((rd_T115 l0_0 x10_1).f2))) (fun _ hk => hk.2) (.int .i64 ((rd_T115 l0_0 x10_1).f3))) (fun _ hk => trivial))); (case aS => exact (below_size qz23_)); (case aL => have := LMc12.out; omega); intro v109 w17 ho hb hg hat; rw [← Ny108.out] at ho; have n0_ := am_ (blk_grown (g := gb101) (o := .cells #[.slice (some ad105) l0_0.length c0_0] 63 (0, 0)) qz24_ hg (Kd.R_ne HO_7.out BK101.out (by decide))); have n1_ := am_ (blk_grown (g := gb106) (o := .cells #[.int .i64 ((rd_T115 l0_0 x10_1).f0), .int .i64 ((rd_T115 l0_0 x10_1).f1), .int .i64 ((rd_T115 l0_0 x10_1).f2), .int .i64 ((rd_T115 l0_0 x10_1).f3)] 115 (0, 0)) qz25_ hg (Kd.R_ne HO_7.out BK106.out (by decide))); have n2_ := am_ (hb); have n3_ := am_ (ho); clear BK101; clear BK106; clear HB; clear HO_7; have BK101 := n0_; have BK106 := n1_; have HB := n2_; have HO110 := n3_; clear n0_ n1_ n2_ n3_; clear ho hb hg hat)); try go_wp2_with (first | ((with_reducible refine gate_dst (N := 11) rfl ?_); refine box_event ?hg (N := 11) ?hd (cs := #[.int .i64 0, .int .i64 0, .int .i64 0, .int .i64 0]) (t := 115) ?hr ?_; (case hd => rfl); (case hg => rfl); (case hr => first | (go_simp; done) | (go_simp; rfl)); intro gb106 hg w14 hbox hb; have n0_ := am_ (Kd.R_below qz16_ hb); have n1_ := am_ (blk_below (g := gb101) (o := .cells #[.slice (some ad105) l0_0.length c0_0] 63 (0, 0)) qz11_ hb); have n2_ := am_ (below_step qz10_ hb); have n3_ := am_ (hbox); have n4_ := am_ ((by rw [hg]; exact (below_size qz10_) : w.heap.size ≤ gb106)); have n5_ := am_ ((by rw [hg]; exact (below_size qz10_) : w.heap.size ≤ gb106)); have n6_ := am_ ((by rw [hg]; exact Nat.ne_of_lt (blk_lt (g := gb101) (o := .cells #[.slice (some ad105) l0_0.length c0_0] 63 (0, 0)) qz11_) : gb101 ≠ gb106)); have n7_ := am_ ((by rw [hg]; exact Nat.ne_of_gt (blk_lt (g := gb101) (o := .cells #[.slice (some ad105) l0_0.length c0_0] 63 (0, 0)) qz11_) : gb106 ≠ gb101)); clear HO_7; clear BK101; clear HB; have HO_7 := n0_; have BK101 := n1_; have HB := n2_; have BK106 := n3_; have GW106 := n4_; have GE106 := n5_; have NB101_106 := n6_; have NB106_101 := n7_; clear n0_ n1_ n2_ n3_ n4_ n5_ n6_ n7_; clear hb hbox hg; have hnb15 := NB106_101.out; have hnc15 := NB101_106.out; have hcz16_0 : w14.cell? ⟨gb106, 0, none⟩ = some (.int .i64 0) := (blk_cell BK106.out 0).trans rfl; have hcz16_1 : w14.cell? ⟨gb106, 1, none⟩ = some (.int .i64 0) := (blk_cell BK106.out 1).trans rfl; have hcz16_2 : w14.cell? ⟨gb106, 2, none⟩ = some (.int .i64 0) := (blk_cell BK106.out 2).trans rfl; have hcz16_3 : w14.cell? ⟨gb106, 3, none⟩ = some (.int .i64 0) := (blk_cell BK106.out 3).trans rfl; have hfz16_0 := blk_frozen BK106.out 0; have hfz16_1 := blk_frozen BK106.out 1; have hfz16_2 := blk_frozen BK106.out 2; have hfz16_3 := blk_frozen BK106.out 3; have p107 : 0 ≤ (x9_1 : Int) := of_decide_eq_true qz0_; have q107 : x9_1 < (l2.length : Int) := of_decide_eq_true qz0_; obtain ⟨ad107, e107, hx107_0⟩ := Kd.at_int HR2.out x9_1 p107 q107; cases e107; have hn107_0 : ad107.block ≠ gb106 := Nat.ne_of_lt (Nat.lt_of_lt_of_le qz17_ GW106.out); have hn107_1 : ad107.block ≠ gb106 := Nat.ne_of_lt (Nat.lt_of_lt_of_le qz17_ GW106.out); have hn107_2 : ad107.block ≠ gb106 := Nat.ne_of_lt (Nat.lt_of_lt_of_le qz17_ GW106.out); have hn107_3 : ad107.block ≠ gb106 := Nat.ne_of_lt (Nat.lt_of_lt_of_le qz17_ GW106.out); replace hx107_0 := (HB.out.cell (World.block_lt_of_cell? w _ hx107_0)).trans hx107_0; replace hx107_0 := (cell_far (p := ⟨gb106, 0, none⟩) qz18_ (.int .i64 ((rd_T115 l0_0 x10_1).f0))).trans hx107_0; replace hx107_0 := (cell_far (p := ⟨gb106, 1, none⟩) qz19_ (.int .i64 ((rd_T115 l0_0 x10_1).f1))).trans hx107_0; replace hx107_0 := (cell_far (p := ⟨gb106, 2, none⟩) qz20_ (.int .i64 ((rd_T115 l0_0 x10_1).f2))).trans hx107_0; replace hx107_0 := (cell_far (p := ⟨gb106, 3, none⟩) qz21_ (.int .i64 ((rd_T115 l0_0 x10_1).f3))).trans hx107_0; (try have hy107_0 := fun (n_ : Nat) => (show ((((((w14.drewN n_).setCell ⟨gb106, 0, none⟩ (.int .i64 ((rd_T115 l0_0 x10_1).f0))).setCell ⟨gb106, 1, none⟩ (.int .i64 ((rd_T115 l0_0 x10_1).f1))).setCell ⟨gb106, 2, none⟩ (.int .i64 ((rd_T115 l0_0 x10_1).f2))).setCell ⟨gb106, 3, none⟩ (.int .i64 ((rd_T115 l0_0 x10_1).f3)))).cell? _ = some _ from hx107_0)); clear hn107_0; clear hn107_1; clear hn107_2; clear hn107_3; replace p107 := eq_true p107; replace q107 := eq_true q107) | ((with_reducible refine gate_builtin (b := .append) (xs := #[.tmp 92, .tmp 94]) rfl ?_); at_builtin; refine Kd.R_append (Kd.int .i64) (w0 := w) w.heap.size rfl (.tmp 92) (.tmp 94) 33 3 (.int .i64 0) 8 rfl Try.underlying33 info3 rfl (by decide) (by omega) u7 x7_1 (rd l2 x9_1) [.int .i64 (rd l2 x9_1)] (fun _ => True) (fun _ => False) rfl qz22_ ?aP (fun _ hk => hk.elim) ?aF ?aO ?aB ?aS ?aL ?_; (case aP => exact rfl); (case aB => exact qz23_); (case aF => exact (fun _ _ => trivial)); (case aO => exact (by (with_reducible repeat (first | apply Kd.R_alloc | apply Kd.R_drewN | apply Kd.R_drew)); exact Kd.R_mono (Kd.R_far (p := ⟨gb106, 3, none⟩) (Kd.R_far (p := ⟨gb106, 2, none⟩) (Kd.R_far (p := ⟨gb106, 1, none⟩) (Kd.R_far (p := ⟨gb106, 0, none⟩) (Kd.R_types HO_7.out BK106.out (by decide)) (fun _ hk => hk.2) (.int .i64 ((rd_T115 l0_0 x10_1).f0))) (fun _ hk => hk.2) (.int .i64 ((rd_T115 l0_0 x10_1).f1))) (fun _ hk => hk.2) (.int .i64 ((rd_T115 l0_0 x10_1).f2))) (fun _ hk => hk.2) (.int .i64 ((rd_T115 l0_0 x10_1).f3))) (fun _ hk => trivial))); (case aS => exact (below_size qz23_)); (case aL => have := LMc12.out; omega); intro v109 w17 ho hb hg hat; rw [← Ny108.out] at ho; have n0_ := am_ (blk_grown (g := gb101) (o := .cells #[.slice (some ad105) l0_0.length c0_0] 63 (0, 0)) qz24_ hg (Kd.R_ne HO_7.out BK101.out (by decide))); have n1_ := am_ (blk_grown (g := gb106) (o := .cells #[.int .i64 ((rd_T115 l0_0 x10_1).f0), .int .i64 ((rd_T115 l0_0 x10_1).f1), .int .i64 ((rd_T115 l0_0 x10_1).f2), .int .i64 ((rd_T115 l0_0 x10_1).f3)] 115 (0, 0)) qz25_ hg (Kd.R_ne HO_7.out BK106.out (by decide))); have n2_ := am_ (hb); have n3_ := am_ (ho); clear BK101; clear BK106; clear HB; clear HO_7; have BK101 := n0_; have BK106 := n1_; have HB := n2_; have HO110 := n3_; clear n0_ n1_ n2_ n3_; clear ho hb hg hat)))
         go_roundg k1
         case measure => have := HK1.out; omega
         case rel => exact ⟨(y108), (x8_1), (wrap64 (x9_1 + 1)), (wrap64 (x10_1 + 1)), qz2_, qz2_, qz2_, H', ⟨qz3_⟩, ⟨(by (with_reducible repeat (first | apply Kd.R_alloc | apply Kd.R_drewN | apply Kd.R_drew)); exact HO110.out)⟩, ⟨qz11_⟩, ⟨qz23_⟩⟩
        ·
         rw [if_neg c12] at H
         exact absurd H (by simp)
       ·
        rw [if_neg c11] at H
        exact absurd H (by simp)
      ·
       rw [if_neg c10] at H
       exact absurd H (by simp)
     ·
      rw [if_neg c9] at H
      have c9b0 : (((rd_T115 l0_0 x10_1).f0) == 1) = false := beq_eq_false_iff_ne.mpr c9
      have c9b1 : (((rd_T115 l0_0 x10_1).f0) != 1) = true := bne_iff_ne.mpr c9
      by_cases c18 : ((rd_T115 l0_0 x10_1).f0) = 2
      ·
       rw [if_pos c18] at H
       have c18b0 : (((rd_T115 l0_0 x10_1).f0) == 2) = true := beq_iff_eq.mpr c18
       have c18b1 : (((rd_T115 l0_0 x10_1).f0) != 2) = false := bne_eq_false_iff_eq.mpr c18
       clear c18
       by_cases c19 : 0 ≤ x8_1
       ·
        rw [if_pos c19] at H
        have c19b0 : decide (0 ≤ x8_1) = true := decide_eq_true c19
        clear c19
        by_cases c20 : x8_1 < (l1.length : Int)
        ·
         rw [if_pos c20] at H
         have c20b0 : decide (x8_1 < (l1.length : Int)) = true := decide_eq_true c20
         clear c20
         by_cases c21 : x7_1.length < 17592186044416
         ·
          rw [if_pos c21] at H
          have LMc21 := am_ c21
          clear c21
          obtain ⟨y112, hy112⟩ : ∃ y_ : List Int, y_ = (x7_1 ++ [rd l1 x8_1]) := ⟨_, rfl⟩
          replace H : (spec_l11Run.l0 k1 l1 l2 y112 (wrap64 (x8_1 + 1)) x9_1 (wrap64 (x10_1 + 1)) l0_0) = some r := by first | (rw [hy112]; with_reducible exact H) | (have H2_ := (Option.bind_some _ _).symm.trans H; rw [hy112]; with_reducible exact H2_) | (have H2_ := (Option.bind_some _ _).symm.trans H; with_reducible exact H2_) | with_reducible exact H | (rw [hy112]; exact H) | exact H
          have Ny112 := am_ hy112
          clear hy112
          have H' := am_ H
          clear H
          have hcz22_0 : wr.cell? ⟨gb101, 0, none⟩ = some (.slice A0_0 l0_0.length c0_0) := (blk_cell BK101.out 0).trans rfl
          have hfz22_0 := blk_frozen BK101.out 0
          have p105 : 0 ≤ (x10_1 : Int) := of_decide_eq_true qz0_
          have q105 : x10_1 < (l0_0.length : Int) := of_decide_eq_true qz0_
          obtain ⟨ad105, e105, hx105_0, hx105_1, hx105_2, hx105_3⟩ := at_T115 HR0_0.out x10_1 p105 q105
          cases e105
          replace hx105_0 := (HB.out.cell (World.block_lt_of_cell? w _ hx105_0)).trans hx105_0
          replace hx105_1 := (HB.out.cell (World.block_lt_of_cell? w _ hx105_1)).trans hx105_1
          replace hx105_2 := (HB.out.cell (World.block_lt_of_cell? w _ hx105_2)).trans hx105_2
          replace hx105_3 := (HB.out.cell (World.block_lt_of_cell? w _ hx105_3)).trans hx105_3
          replace p105 := eq_true p105
          replace q105 := eq_true q105
          go_wp2_with (first | ((with_reducible refine gate_dst (N := 11) rfl ?_); refine box_event ?hg (N := 11) ?hd (cs := #[.int .i64 0, .int .i64 0, .int .i64 0, .int .i64 0]) (t := 115) ?hr ?_; (case hd => rfl); (case hg => rfl); (case hr => first | (go_simp; done) | (go_simp; rfl)); intro gb106 hg w23 hbox hb; have n0_ := am_ (Kd.R_below qz16_ hb); have n1_ := am_ (blk_below (g := gb101) (o := .cells #[.slice (some ad105) l0_0.length c0_0] 63 (0, 0)) qz11_ hb); have n2_ := am_ (below_step qz10_ hb); have n3_ := am_ (hbox); have n4_ := am_ ((by rw [hg]; exact (below_size qz10_) : w.heap.size ≤ gb106)); have n5_ := am_ ((by rw [hg]; exact (below_size qz10_) : w.heap.size ≤ gb106)); have n6_ := am_ ((by rw [hg]; exact Nat.ne_of_lt (blk_lt (g := gb101) (o := .cells #[.slice (some ad105) l0_0.length c0_0] 63 (0, 0)) qz11_) : gb101 ≠ gb106)); have n7_ := am_ ((by rw [hg]; exact Nat.ne_of_gt (blk_lt (g := gb101) (o := .cells #[.slice (some ad105) l0_0.length c0_0] 63 (0, 0)) qz11_) : gb106 ≠ gb101)); clear HO_7; clear BK101; clear HB; have HO_7 := n0_; have BK101 := n1_; have HB := n2_; have BK106 := n3_; have GW106 := n4_; have GE106 := n5_; have NB101_106 := n6_; have NB106_101 := n7_; clear n0_ n1_ n2_ n3_ n4_ n5_ n6_ n7_; clear hb hbox hg; have hnb24 := NB106_101.out; have hnc24 := NB101_106.out; have hcz25_0 : w23.cell? ⟨gb106, 0, none⟩ = some (.int .i64 0) := (blk_cell BK106.out 0).trans rfl; have hcz25_1 : w23.cell? ⟨gb106, 1, none⟩ = some (.int .i64 0) := (blk_cell BK106.out 1).trans rfl; have hcz25_2 : w23.cell? ⟨gb106, 2, none⟩ = some (.int .i64 0) := (blk_cell BK106.out 2).trans rfl; have hcz25_3 : w23.cell? ⟨gb106, 3, none⟩ = some (.int .i64 0) := (blk_cell BK106.out 3).trans rfl; have hfz25_0 := blk_frozen BK106.out 0; have hfz25_1 := blk_frozen BK106.out 1; have hfz25_2 := blk_frozen BK106.out 2; have hfz25_3 := blk_frozen BK106.out 3; have p111 : 0 ≤ (x8_1 : Int) := of_decide_eq_true qz0_; have q111 : x8_1 < (l1.length : Int) := of_decide_eq_true qz0_; obtain ⟨ad111, e111, hx111_0⟩ := Kd.at_int HR1.out x8_1 p111 q111; cases e111; have hn111_0 : ad111.block ≠ gb106 := Nat.ne_of_lt (Nat.lt_of_lt_of_le qz26_ GW106.out); have hn111_1 : ad111.block ≠ gb106 := Nat.ne_of_lt (Nat.lt_of_lt_of_le qz26_ GW106.out); have hn111_2 : ad111.block ≠ gb106 := Nat.ne_of_lt (Nat.lt_of_lt_of_le qz26_ GW106.out); have hn111_3 : ad111.block ≠ gb106 := Nat.ne_of_lt (Nat.lt_of_lt_of_le qz26_ GW106.out); replace hx111_0 := (HB.out.cell (World.block_lt_of_cell? w _ hx111_0)).trans hx111_0; replace hx111_0 := (cell_far (p := ⟨gb106, 0, none⟩) (by first | (rw [add_block]; exact hn111_0) | (show (Addr.add _ _).block ≠ _; rw [add_block]; exact hn111_0) | exact hn111_0) (.int .i64 ((rd_T115 l0_0 x10_1).f0))).trans hx111_0; replace hx111_0 := (cell_far (p := ⟨gb106, 1, none⟩) (by first | (rw [add_block]; exact hn111_1) | (show (Addr.add _ _).block ≠ _; rw [add_block]; exact hn111_1) | exact hn111_1) (.int .i64 ((rd_T115 l0_0 x10_1).f1))).trans hx111_0; replace hx111_0 := (cell_far (p := ⟨gb106, 2, none⟩) (by first | (rw [add_block]; exact hn111_2) | (show (Addr.add _ _).block ≠ _; rw [add_block]; exact hn111_2) | exact hn111_2) (.int .i64 ((rd_T115 l0_0 x10_1).f2))).trans hx111_0; replace hx111_0 := (cell_far (p := ⟨gb106, 3, none⟩) (by first | (rw [add_block]; exact hn111_3) | (show (Addr.add _ _).block ≠ _; rw [add_block]; exact hn111_3) | exact hn111_3) (.int .i64 ((rd_T115 l0_0 x10_1).f3))).trans hx111_0; (try have hy111_0 := fun (n_ : Nat) => (show ((((((w23.drewN n_).setCell ⟨gb106, 0, none⟩ (.int .i64 ((rd_T115 l0_0 x10_1).f0))).setCell ⟨gb106, 1, none⟩ (.int .i64 ((rd_T115 l0_0 x10_1).f1))).setCell ⟨gb106, 2, none⟩ (.int .i64 ((rd_T115 l0_0 x10_1).f2))).setCell ⟨gb106, 3, none⟩ (.int .i64 ((rd_T115 l0_0 x10_1).f3)))).cell? _ = some _ from hx111_0)); clear hn111_0; clear hn111_1; clear hn111_2; clear hn111_3; replace p111 := eq_true p111; replace q111 := eq_true q111) | ((with_reducible refine gate_builtin (b := .append) (xs := #[.tmp 92, .tmp 94]) rfl ?_); at_builtin; refine Kd.R_append (Kd.int .i64) (w0 := w) w.heap.size rfl (.tmp 92) (.tmp 94) 33 3 (.int .i64 0) 8 rfl Try.underlying33 info3 rfl (by decide) (by omega) u7 x7_1 (rd l1 x8_1) [.int .i64 (rd l1 x8_1)] (fun _ => True) (fun _ => False) rfl qz22_ ?aP (fun _ hk => hk.elim) ?aF ?aO ?aB ?aS ?aL ?_; (case aP => exact rfl); (case aB => exact qz23_); (case aF => exact (fun _ _ => trivial)); (case aO => exact (by (with_reducible repeat (first | apply Kd.R_alloc | apply Kd.R_drewN | apply Kd.R_drew)); exact Kd.R_mono (Kd.R_far (p := ⟨gb106, 3, none⟩) (Kd.R_far (p := ⟨gb106, 2, none⟩) (Kd.R_far (p := ⟨gb106, 1, none⟩) (Kd.R_far (p := ⟨gb106, 0, none⟩) (Kd.R_types HO_7.out BK106.out (by decide)) (fun _ hk => hk.2) (.int .i64 ((rd_T115 l0_0 x10_1).f0))) (fun _ hk => hk.2) (.int .i64 ((rd_T115 l0_0 x10_1).f1))) (fun _ hk => hk.2) (.int .i64 ((rd_T115 l0_0 x10_1).f2))) (fun _ hk => hk.2) (.int .i64 ((rd_T115 l0_0 x10_1).f3))) (fun _ hk => trivial))); (case aS => exact (below_size qz23_)); (case aL => have := LMc21.out; omega); intro v113 w26 ho hb hg hat; rw [← Ny112.out] at ho; have n0_ := am_ (blk_grown (g := gb101) (o := .cells #[.slice (some ad105) l0_0.length c0_0] 63 (0, 0)) qz24_ hg (Kd.R_ne HO_7.out BK101.out (by decide))); have n1_ := am_ (blk_grown (g := gb106) (o := .cells #[.int .i64 ((rd_T115 l0_0 x10_1).f0), .int .i64 ((rd_T115 l0_0 x10_1).f1), .int .i64 ((rd_T115 l0_0 x10_1).f2), .int .i64 ((rd_T115 l0_0 x10_1).f3)] 115 (0, 0)) qz25_ hg (Kd.R_ne HO_7.out BK106.out (by decide))); have n2_ := am_ (hb); have n3_ := am_ (ho); clear BK101; clear BK106; clear HB; clear HO_7; have BK101 := n0_; have BK106 := n1_; have HB := n2_; have HO114 := n3_; clear n0_ n1_ n2_ n3_; clear ho hb hg hat))
          repeat (go_quiet (first | ((with_reducible refine gate_dst (N := 11) rfl ?_); refine box_event ?hg (N := 11) ?hd (cs := #[.int .i64 0, .int .i64 0, .int .i64 0, .int .i64 0]) (t := 115) ?hr ?_; (case hd => rfl); (case hg => rfl); (case hr => first | (go_simp; done) | (go_simp; rfl)); intro gb106 hg w23 hbox hb; have n0_ := am_ (Kd.R_below qz16_ hb); have n1_ := am_ (blk_below (g := gb101) (o := .cells #[.slice (some ad105) l0_0.length c0_0] 63 (0, 0)) qz11_ hb); have n2_ := am_ (below_step qz10_ hb); have n3_ := am_ (hbox); have n4_ := am_ ((by rw [hg]; exact (below_size qz10_) : w.heap.size ≤ gb106)); have n5_ := am_ ((by rw [hg]; exact (below_size qz10_) : w.heap.size ≤ gb106)); have n6_ := am_ ((by rw [hg]; exact Nat.ne_of_lt (blk_lt (g := gb101) (o := .cells #[.slice (some ad105) l0_0.length c0_0] 63 (0, 0)) qz11_) : gb101 ≠ gb106)); have n7_ := am_ ((by rw [hg]; exact Nat.ne_of_gt (blk_lt (g := gb101) (o := .cells #[.slice (some ad105) l0_0.length c0_0] 63 (0, 0)) qz11_) : gb106 ≠ gb101)); clear HO_7; clear BK101; clear HB; have HO_7 := n0_; have BK101 := n1_; have HB := n2_; have BK106 := n3_; have GW106 := n4_; have GE106 := n5_; have NB101_106 := n6_; have NB106_101 := n7_; clear n0_ n1_ n2_ n3_ n4_ n5_ n6_ n7_; clear hb hbox hg; have hnb24 := NB106_101.out; have hnc24 := NB101_106.out; have hcz25_0 : w23.cell? ⟨gb106, 0, none⟩ = some (.int .i64 0) := (blk_cell BK106.out 0).trans rfl; have hcz25_1 : w23.cell? ⟨gb106, 1, none⟩ = some (.int .i64 0) := (blk_cell BK106.out 1).trans rfl; have hcz25_2 : w23.cell? ⟨gb106, 2, none⟩ = some (.int .i64 0) := (blk_cell BK106.out 2).trans rfl; have hcz25_3 : w23.cell? ⟨gb106, 3, none⟩ = some (.int .i64 0) := (blk_cell BK106.out 3).trans rfl; have hfz25_0 := blk_frozen BK106.out 0; have hfz25_1 := blk_frozen BK106.out 1; have hfz25_2 := blk_frozen BK106.out 2; have hfz25_3 := blk_frozen BK106.out 3; have p111 : 0 ≤ (x8_1 : Int) := of_decide_eq_true qz0_; have q111 : x8_1 < (l1.length : Int) := of_decide_eq_true qz0_; obtain ⟨ad111, e111, hx111_0⟩ := Kd.at_int HR1.out x8_1 p111 q111; cases e111; have hn111_0 : ad111.block ≠ gb106 := Nat.ne_of_lt (Nat.lt_of_lt_of_le qz26_ GW106.out); have hn111_1 : ad111.block ≠ gb106 := Nat.ne_of_lt (Nat.lt_of_lt_of_le qz26_ GW106.out); have hn111_2 : ad111.block ≠ gb106 := Nat.ne_of_lt (Nat.lt_of_lt_of_le qz26_ GW106.out); have hn111_3 : ad111.block ≠ gb106 := Nat.ne_of_lt (Nat.lt_of_lt_of_le qz26_ GW106.out); replace hx111_0 := (HB.out.cell (World.block_lt_of_cell? w _ hx111_0)).trans hx111_0; replace hx111_0 := (cell_far (p := ⟨gb106, 0, none⟩) (by first | (rw [add_block]; exact hn111_0) | (show (Addr.add _ _).block ≠ _; rw [add_block]; exact hn111_0) | exact hn111_0) (.int .i64 ((rd_T115 l0_0 x10_1).f0))).trans hx111_0; replace hx111_0 := (cell_far (p := ⟨gb106, 1, none⟩) (by first | (rw [add_block]; exact hn111_1) | (show (Addr.add _ _).block ≠ _; rw [add_block]; exact hn111_1) | exact hn111_1) (.int .i64 ((rd_T115 l0_0 x10_1).f1))).trans hx111_0; replace hx111_0 := (cell_far (p := ⟨gb106, 2, none⟩) (by first | (rw [add_block]; exact hn111_2) | (show (Addr.add _ _).block ≠ _; rw [add_block]; exact hn111_2) | exact hn111_2) (.int .i64 ((rd_T115 l0_0 x10_1).f2))).trans hx111_0; replace hx111_0 := (cell_far (p := ⟨gb106, 3, none⟩) (by first | (rw [add_block]; exact hn111_3) | (show (Addr.add _ _).block ≠ _; rw [add_block]; exact hn111_3) | exact hn111_3) (.int .i64 ((rd_T115 l0_0 x10_1).f3))).trans hx111_0; (try have hy111_0 := fun (n_ : Nat) => (show ((((((w23.drewN n_).setCell ⟨gb106, 0, none⟩ (.int .i64 ((rd_T115 l0_0 x10_1).f0))).setCell ⟨gb106, 1, none⟩ (.int .i64 ((rd_T115 l0_0 x10_1).f1))).setCell ⟨gb106, 2, none⟩ (.int .i64 ((rd_T115 l0_0 x10_1).f2))).setCell ⟨gb106, 3, none⟩ (.int .i64 ((rd_T115 l0_0 x10_1).f3)))).cell? _ = some _ from hx111_0)); clear hn111_0; clear hn111_1; clear hn111_2; clear hn111_3; replace p111 := eq_true p111; replace q111 := eq_true q111) | ((with_reducible refine gate_builtin (b := .append) (xs := #[.tmp 92, .tmp 94]) rfl ?_); at_builtin; refine Kd.R_append (Kd.int .i64) (w0 := w) w.heap.size rfl (.tmp 92) (.tmp 94) 33 3 (.int .i64 0) 8 rfl Try.underlying33 info3 rfl (by decide) (by omega) u7 x7_1 (rd l1 x8_1) [.int .i64 (rd l1 x8_1)] (fun _ => True) (fun _ => False) rfl qz22_ ?aP (fun _ hk => hk.elim) ?aF ?aO ?aB ?aS ?aL ?_; (case aP => exact rfl); (case aB => exact qz23_); (case aF => exact (fun _ _ => trivial)); (case aO => exact (by (with_reducible repeat (first | apply Kd.R_alloc | apply Kd.R_drewN | apply Kd.R_drew)); exact Kd.R_mono (Kd.R_far (p := ⟨gb106, 3, none⟩) (Kd.R_far (p := ⟨gb106, 2, none⟩) (Kd.R_far (p := ⟨gb106, 1, none⟩) (Kd.R_far (p := ⟨gb106, 0, none⟩) (Kd.R_types HO_7.out BK106.out (by decide)) (fun _ hk => hk.2) (.int .i64 ((rd_T115 l0_0 x10_1).f0))) (fun _ hk => hk.2) (.int .i64 ((rd_T115 l0_0 x10_1).f1))) (fun _ hk => hk.2) (.int .i64 ((rd_T115 l0_0 x10_1).f2))) (fun _ hk => hk.2) (.int .i64 ((rd_T115 l0_0 x10_1).f3))) (fun _ hk => trivial))); (case aS => exact (below_size qz23_)); (case aL => have := LMc21.out; omega); intro v113 w26 ho hb hg hat; rw [← Ny112.out] at ho; have n0_ := am_ (blk_grown (g := gb101) (o := .cells #[.slice (some ad105) l0_0.length c0_0] 63 (0, 0)) qz24_ hg (Kd.R_ne HO_7.out BK101.out (by decide))); have n1_ := am_ (blk_grown (g := gb106) (o := .cells #[.int .i64 ((rd_T115 l0_0 x10_1).f0), .int .i64 ((rd_T115 l0_0 x10_1).f1), .int .i64 ((rd_T115 l0_0 x10_1).f2), .int .i64 ((rd_T115 l0_0 x10_1).f3)] 115 (0, 0)) qz25_ hg (Kd.R_ne HO_7.out BK106.out (by decide))); have n2_ := am_ (hb); have n3_ := am_ (ho); clear BK101; clear BK106; clear HB; clear HO_7; have BK101 := n0_; have BK106 := n1_; have HB := n2_; have HO114 := n3_; clear n0_ n1_ n2_ n3_; clear ho hb hg hat)); try go_wp2_with (first | ((with_reducible refine gate_dst (N := 11) rfl ?_); refine box_event ?hg (N := 11) ?hd (cs := #[.int .i64 0, .int .i64 0, .int .i64 0, .int .i64 0]) (t := 115) ?hr ?_; (case hd => rfl); (case hg => rfl); (case hr => first | (go_simp; done) | (go_simp; rfl)); intro gb106 hg w23 hbox hb; have n0_ := am_ (Kd.R_below qz16_ hb); have n1_ := am_ (blk_below (g := gb101) (o := .cells #[.slice (some ad105) l0_0.length c0_0] 63 (0, 0)) qz11_ hb); have n2_ := am_ (below_step qz10_ hb); have n3_ := am_ (hbox); have n4_ := am_ ((by rw [hg]; exact (below_size qz10_) : w.heap.size ≤ gb106)); have n5_ := am_ ((by rw [hg]; exact (below_size qz10_) : w.heap.size ≤ gb106)); have n6_ := am_ ((by rw [hg]; exact Nat.ne_of_lt (blk_lt (g := gb101) (o := .cells #[.slice (some ad105) l0_0.length c0_0] 63 (0, 0)) qz11_) : gb101 ≠ gb106)); have n7_ := am_ ((by rw [hg]; exact Nat.ne_of_gt (blk_lt (g := gb101) (o := .cells #[.slice (some ad105) l0_0.length c0_0] 63 (0, 0)) qz11_) : gb106 ≠ gb101)); clear HO_7; clear BK101; clear HB; have HO_7 := n0_; have BK101 := n1_; have HB := n2_; have BK106 := n3_; have GW106 := n4_; have GE106 := n5_; have NB101_106 := n6_; have NB106_101 := n7_; clear n0_ n1_ n2_ n3_ n4_ n5_ n6_ n7_; clear hb hbox hg; have hnb24 := NB106_101.out; have hnc24 := NB101_106.out; have hcz25_0 : w23.cell? ⟨gb106, 0, none⟩ = some (.int .i64 0) := (blk_cell BK106.out 0).trans rfl; have hcz25_1 : w23.cell? ⟨gb106, 1, none⟩ = some (.int .i64 0) := (blk_cell BK106.out 1).trans rfl; have hcz25_2 : w23.cell? ⟨gb106, 2, none⟩ = some (.int .i64 0) := (blk_cell BK106.out 2).trans rfl; have hcz25_3 : w23.cell? ⟨gb106, 3, none⟩ = some (.int .i64 0) := (blk_cell BK106.out 3).trans rfl; have hfz25_0 := blk_frozen BK106.out 0; have hfz25_1 := blk_frozen BK106.out 1; have hfz25_2 := blk_frozen BK106.out 2; have hfz25_3 := blk_frozen BK106.out 3; have p111 : 0 ≤ (x8_1 : Int) := of_decide_eq_true qz0_; have q111 : x8_1 < (l1.length : Int) := of_decide_eq_true qz0_; obtain ⟨ad111, e111, hx111_0⟩ := Kd.at_int HR1.out x8_1 p111 q111; cases e111; have hn111_0 : ad111.block ≠ gb106 := Nat.ne_of_lt (Nat.lt_of_lt_of_le qz26_ GW106.out); have hn111_1 : ad111.block ≠ gb106 := Nat.ne_of_lt (Nat.lt_of_lt_of_le qz26_ GW106.out); have hn111_2 : ad111.block ≠ gb106 := Nat.ne_of_lt (Nat.lt_of_lt_of_le qz26_ GW106.out); have hn111_3 : ad111.block ≠ gb106 := Nat.ne_of_lt (Nat.lt_of_lt_of_le qz26_ GW106.out); replace hx111_0 := (HB.out.cell (World.block_lt_of_cell? w _ hx111_0)).trans hx111_0; replace hx111_0 := (cell_far (p := ⟨gb106, 0, none⟩) (by first | (rw [add_block]; exact hn111_0) | (show (Addr.add _ _).block ≠ _; rw [add_block]; exact hn111_0) | exact hn111_0) (.int .i64 ((rd_T115 l0_0 x10_1).f0))).trans hx111_0; replace hx111_0 := (cell_far (p := ⟨gb106, 1, none⟩) (by first | (rw [add_block]; exact hn111_1) | (show (Addr.add _ _).block ≠ _; rw [add_block]; exact hn111_1) | exact hn111_1) (.int .i64 ((rd_T115 l0_0 x10_1).f1))).trans hx111_0; replace hx111_0 := (cell_far (p := ⟨gb106, 2, none⟩) (by first | (rw [add_block]; exact hn111_2) | (show (Addr.add _ _).block ≠ _; rw [add_block]; exact hn111_2) | exact hn111_2) (.int .i64 ((rd_T115 l0_0 x10_1).f2))).trans hx111_0; replace hx111_0 := (cell_far (p := ⟨gb106, 3, none⟩) (by first | (rw [add_block]; exact hn111_3) | (show (Addr.add _ _).block ≠ _; rw [add_block]; exact hn111_3) | exact hn111_3) (.int .i64 ((rd_T115 l0_0 x10_1).f3))).trans hx111_0; (try have hy111_0 := fun (n_ : Nat) => (show ((((((w23.drewN n_).setCell ⟨gb106, 0, none⟩ (.int .i64 ((rd_T115 l0_0 x10_1).f0))).setCell ⟨gb106, 1, none⟩ (.int .i64 ((rd_T115 l0_0 x10_1).f1))).setCell ⟨gb106, 2, none⟩ (.int .i64 ((rd_T115 l0_0 x10_1).f2))).setCell ⟨gb106, 3, none⟩ (.int .i64 ((rd_T115 l0_0 x10_1).f3)))).cell? _ = some _ from hx111_0)); clear hn111_0; clear hn111_1; clear hn111_2; clear hn111_3; replace p111 := eq_true p111; replace q111 := eq_true q111) | ((with_reducible refine gate_builtin (b := .append) (xs := #[.tmp 92, .tmp 94]) rfl ?_); at_builtin; refine Kd.R_append (Kd.int .i64) (w0 := w) w.heap.size rfl (.tmp 92) (.tmp 94) 33 3 (.int .i64 0) 8 rfl Try.underlying33 info3 rfl (by decide) (by omega) u7 x7_1 (rd l1 x8_1) [.int .i64 (rd l1 x8_1)] (fun _ => True) (fun _ => False) rfl qz22_ ?aP (fun _ hk => hk.elim) ?aF ?aO ?aB ?aS ?aL ?_; (case aP => exact rfl); (case aB => exact qz23_); (case aF => exact (fun _ _ => trivial)); (case aO => exact (by (with_reducible repeat (first | apply Kd.R_alloc | apply Kd.R_drewN | apply Kd.R_drew)); exact Kd.R_mono (Kd.R_far (p := ⟨gb106, 3, none⟩) (Kd.R_far (p := ⟨gb106, 2, none⟩) (Kd.R_far (p := ⟨gb106, 1, none⟩) (Kd.R_far (p := ⟨gb106, 0, none⟩) (Kd.R_types HO_7.out BK106.out (by decide)) (fun _ hk => hk.2) (.int .i64 ((rd_T115 l0_0 x10_1).f0))) (fun _ hk => hk.2) (.int .i64 ((rd_T115 l0_0 x10_1).f1))) (fun _ hk => hk.2) (.int .i64 ((rd_T115 l0_0 x10_1).f2))) (fun _ hk => hk.2) (.int .i64 ((rd_T115 l0_0 x10_1).f3))) (fun _ hk => trivial))); (case aS => exact (below_size qz23_)); (case aL => have := LMc21.out; omega); intro v113 w26 ho hb hg hat; rw [← Ny112.out] at ho; have n0_ := am_ (blk_grown (g := gb101) (o := .cells #[.slice (some ad105) l0_0.length c0_0] 63 (0, 0)) qz24_ hg (Kd.R_ne HO_7.out BK101.out (by decide))); have n1_ := am_ (blk_grown (g := gb106) (o := .cells #[.int .i64 ((rd_T115 l0_0 x10_1).f0), .int .i64 ((rd_T115 l0_0 x10_1).f1), .int .i64 ((rd_T115 l0_0 x10_1).f2), .int .i64 ((rd_T115 l0_0 x10_1).f3)] 115 (0, 0)) qz25_ hg (Kd.R_ne HO_7.out BK106.out (by decide))); have n2_ := am_ (hb); have n3_ := am_ (ho); clear BK101; clear BK106; clear HB; clear HO_7; have BK101 := n0_; have BK106 := n1_; have HB := n2_; have HO114 := n3_; clear n0_ n1_ n2_ n3_; clear ho hb hg hat)))
          go_roundg k1
          case measure => have := HK1.out; omega
          case rel => exact ⟨(y112), (wrap64 (x8_1 + 1)), (x9_1), (wrap64 (x10_1 + 1)), qz2_, qz2_, qz2_, H', ⟨qz3_⟩, ⟨qz27_⟩, ⟨qz11_⟩, ⟨qz23_⟩⟩
         ·
          rw [if_neg c21] at H
          exact absurd H (by simp)
        ·
         rw [if_neg c20] at H
         exact absurd H (by simp)
       ·
        rw [if_neg c19] at H
        exact absurd H (by simp)
      ·
       rw [if_neg c18] at H
       have c18b0 : (((rd_T115 l0_0 x10_1).f0) == 2) = false := beq_eq_false_iff_ne.mpr c18
       have c18b1 : (((rd_T115 l0_0 x10_1).f0) != 2) = true := bne_iff_ne.mpr c18
       by_cases c27 : ((rd_T115 l0_0 x10_1).f0) = 3
       ·
        rw [if_pos c27] at H
        have c27b0 : (((rd_T115 l0_0 x10_1).f0) == 3) = true := beq_iff_eq.mpr c27
        have c27b1 : (((rd_T115 l0_0 x10_1).f0) != 3) = false := bne_eq_false_iff_eq.mpr c27
        clear c27
        by_cases c28 : x7_1.length < 17592186044416
        ·
         rw [if_pos c28] at H
         have LMc28 := am_ c28
         clear c28
         obtain ⟨y115, hy115⟩ : ∃ y_ : List Int, y_ = (x7_1 ++ [(rd_T115 l0_0 x10_1).f3]) := ⟨_, rfl⟩
         replace H : (spec_l11Run.l0 k1 l1 l2 y115 x8_1 x9_1 (wrap64 (x10_1 + 1)) l0_0) = some r := by first | (rw [hy115]; with_reducible exact H) | (have H2_ := (Option.bind_some _ _).symm.trans H; rw [hy115]; with_reducible exact H2_) | (have H2_ := (Option.bind_some _ _).symm.trans H; with_reducible exact H2_) | with_reducible exact H | (rw [hy115]; exact H) | exact H
         have Ny115 := am_ hy115
         clear hy115
         have H' := am_ H
         clear H
         have hcz29_0 : wr.cell? ⟨gb101, 0, none⟩ = some (.slice A0_0 l0_0.length c0_0) := (blk_cell BK101.out 0).trans rfl
         have hfz29_0 := blk_frozen BK101.out 0
         have p105 : 0 ≤ (x10_1 : Int) := of_decide_eq_true qz0_
         have q105 : x10_1 < (l0_0.length : Int) := of_decide_eq_true qz0_
         obtain ⟨ad105, e105, hx105_0, hx105_1, hx105_2, hx105_3⟩ := at_T115 HR0_0.out x10_1 p105 q105
         cases e105
         replace hx105_0 := (HB.out.cell (World.block_lt_of_cell? w _ hx105_0)).trans hx105_0
         replace hx105_1 := (HB.out.cell (World.block_lt_of_cell? w _ hx105_1)).trans hx105_1
         replace hx105_2 := (HB.out.cell (World.block_lt_of_cell? w _ hx105_2)).trans hx105_2
         replace hx105_3 := (HB.out.cell (World.block_lt_of_cell? w _ hx105_3)).trans hx105_3
         replace p105 := eq_true p105
         replace q105 := eq_true q105
         go_wp2_with (first | ((with_reducible refine gate_dst (N := 11) rfl ?_); refine box_event ?hg (N := 11) ?hd (cs := #[.int .i64 0, .int .i64 0, .int .i64 0, .int .i64 0]) (t := 115) ?hr ?_; (case hd => rfl); (case hg => rfl); (case hr => first | (go_simp; done) | (go_simp; rfl)); intro gb106 hg w30 hbox hb; have n0_ := am_ (Kd.R_below qz16_ hb); have n1_ := am_ (blk_below (g := gb101) (o := .cells #[.slice (some ad105) l0_0.length c0_0] 63 (0, 0)) qz11_ hb); have n2_ := am_ (below_step qz10_ hb); have n3_ := am_ (hbox); have n4_ := am_ ((by rw [hg]; exact (below_size qz10_) : w.heap.size ≤ gb106)); have n5_ := am_ ((by rw [hg]; exact (below_size qz10_) : w.heap.size ≤ gb106)); have n6_ := am_ ((by rw [hg]; exact Nat.ne_of_lt (blk_lt (g := gb101) (o := .cells #[.slice (some ad105) l0_0.length c0_0] 63 (0, 0)) qz11_) : gb101 ≠ gb106)); have n7_ := am_ ((by rw [hg]; exact Nat.ne_of_gt (blk_lt (g := gb101) (o := .cells #[.slice (some ad105) l0_0.length c0_0] 63 (0, 0)) qz11_) : gb106 ≠ gb101)); clear HO_7; clear BK101; clear HB; have HO_7 := n0_; have BK101 := n1_; have HB := n2_; have BK106 := n3_; have GW106 := n4_; have GE106 := n5_; have NB101_106 := n6_; have NB106_101 := n7_; clear n0_ n1_ n2_ n3_ n4_ n5_ n6_ n7_; clear hb hbox hg; have hnb31 := NB106_101.out; have hnc31 := NB101_106.out; have hcz32_0 : w30.cell? ⟨gb106, 0, none⟩ = some (.int .i64 0) := (blk_cell BK106.out 0).trans rfl; have hcz32_1 : w30.cell? ⟨gb106, 1, none⟩ = some (.int .i64 0) := (blk_cell BK106.out 1).trans rfl; have hcz32_2 : w30.cell? ⟨gb106, 2, none⟩ = some (.int .i64 0) := (blk_cell BK106.out 2).trans rfl; have hcz32_3 : w30.cell? ⟨gb106, 3, none⟩ = some (.int .i64 0) := (blk_cell BK106.out 3).trans rfl; have hfz32_0 := blk_frozen BK106.out 0; have hfz32_1 := blk_frozen BK106.out 1; have hfz32_2 := blk_frozen BK106.out 2; have hfz32_3 := blk_frozen BK106.out 3) | ((with_reducible refine gate_builtin (b := .append) (xs := #[.tmp 92, .tmp 94]) rfl ?_); at_builtin; refine Kd.R_append (Kd.int .i64) (w0 := w) w.heap.size rfl (.tmp 92) (.tmp 94) 33 3 (.int .i64 0) 8 rfl Try.underlying33 info3 rfl (by decide) (by omega) u7 x7_1 ((rd_T115 l0_0 x10_1).f3) [.int .i64 ((rd_T115 l0_0 x10_1).f3)] (fun _ => True) (fun _ => False) rfl qz22_ ?aP (fun _ hk => hk.elim) ?aF ?aO ?aB ?aS ?aL ?_; (case aP => exact rfl); (case aB => exact qz23_); (case aF => exact (fun _ _ => trivial)); (case aO => exact (by (with_reducible repeat (first | apply Kd.R_alloc | apply Kd.R_drewN | apply Kd.R_drew)); exact Kd.R_mono (Kd.R_far (p := ⟨gb106, 3, none⟩) (Kd.R_far (p := ⟨gb106, 2, none⟩) (Kd.R_far (p := ⟨gb106, 1, none⟩) (Kd.R_far (p := ⟨gb106, 0, none⟩) (Kd.R_types HO_7.out BK106.out (by decide)) (fun _ hk => hk.2) (.int .i64 ((rd_T115 l0_0 x10_1).f0))) (fun _ hk => hk.2) (.int .i64 ((rd_T115 l0_0 x10_1).f1))) (fun _ hk => hk.2) (.int .i64 ((rd_T115 l0_0 x10_1).f2))) (fun _ hk => hk.2) (.int .i64 ((rd_T115 l0_0 x10_1).f3))) (fun _ hk => trivial))); (case aS => exact (below_size qz23_)); (case aL => have := LMc28.out; omega); intro v116 w33 ho hb hg hat; rw [← Ny115.out] at ho; have n0_ := am_ (blk_grown (g := gb101) (o := .cells #[.slice (some ad105) l0_0.length c0_0] 63 (0, 0)) qz24_ hg (Kd.R_ne HO_7.out BK101.out (by decide))); have n1_ := am_ (blk_grown (g := gb106) (o := .cells #[.int .i64 ((rd_T115 l0_0 x10_1).f0), .int .i64 ((rd_T115 l0_0 x10_1).f1), .int .i64 ((rd_T115 l0_0 x10_1).f2), .int .i64 ((rd_T115 l0_0 x10_1).f3)] 115 (0, 0)) qz25_ hg (Kd.R_ne HO_7.out BK106.out (by decide))); have n2_ := am_ (hb); have n3_ := am_ (ho); clear BK101; clear BK106; clear HB; clear HO_7; have BK101 := n0_; have BK106 := n1_; have HB := n2_; have HO117 := n3_; clear n0_ n1_ n2_ n3_; clear ho hb hg hat))
         repeat (go_quiet (first | ((with_reducible refine gate_dst (N := 11) rfl ?_); refine box_event ?hg (N := 11) ?hd (cs := #[.int .i64 0, .int .i64 0, .int .i64 0, .int .i64 0]) (t := 115) ?hr ?_; (case hd => rfl); (case hg => rfl); (case hr => first | (go_simp; done) | (go_simp; rfl)); intro gb106 hg w30 hbox hb; have n0_ := am_ (Kd.R_below qz16_ hb); have n1_ := am_ (blk_below (g := gb101) (o := .cells #[.slice (some ad105) l0_0.length c0_0] 63 (0, 0)) qz11_ hb); have n2_ := am_ (below_step qz10_ hb); have n3_ := am_ (hbox); have n4_ := am_ ((by rw [hg]; exact (below_size qz10_) : w.heap.size ≤ gb106)); have n5_ := am_ ((by rw [hg]; exact (below_size qz10_) : w.heap.size ≤ gb106)); have n6_ := am_ ((by rw [hg]; exact Nat.ne_of_lt (blk_lt (g := gb101) (o := .cells #[.slice (some ad105) l0_0.length c0_0] 63 (0, 0)) qz11_) : gb101 ≠ gb106)); have n7_ := am_ ((by rw [hg]; exact Nat.ne_of_gt (blk_lt (g := gb101) (o := .cells #[.slice (some ad105) l0_0.length c0_0] 63 (0, 0)) qz11_) : gb106 ≠ gb101)); clear HO_7; clear BK101; clear HB; have HO_7 := n0_; have BK101 := n1_; have HB := n2_; have BK106 := n3_; have GW106 := n4_; have GE106 := n5_; have NB101_106 := n6_; have NB106_101 := n7_; clear n0_ n1_ n2_ n3_ n4_ n5_ n6_ n7_; clear hb hbox hg; have hnb31 := NB106_101.out; have hnc31 := NB101_106.out; have hcz32_0 : w30.cell? ⟨gb106, 0, none⟩ = some (.int .i64 0) := (blk_cell BK106.out 0).trans rfl; have hcz32_1 : w30.cell? ⟨gb106, 1, none⟩ = some (.int .i64 0) := (blk_cell BK106.out 1).trans rfl; have hcz32_2 : w30.cell? ⟨gb106, 2, none⟩ = some (.int .i64 0) := (blk_cell BK106.out 2).trans rfl; have hcz32_3 : w30.cell? ⟨gb106, 3, none⟩ = some (.int .i64 0) := (blk_cell BK106.out 3).trans rfl; have hfz32_0 := blk_frozen BK106.out 0; have hfz32_1 := blk_frozen BK106.out 1; have hfz32_2 := blk_frozen BK106.out 2; have hfz32_3 := blk_frozen BK106.out 3) | ((with_reducible refine gate_builtin (b := .append) (xs := #[.tmp 92, .tmp 94]) rfl ?_); at_builtin; refine Kd.R_append (Kd.int .i64) (w0 := w) w.heap.size rfl (.tmp 92) (.tmp 94) 33 3 (.int .i64 0) 8 rfl Try.underlying33 info3 rfl (by decide) (by omega) u7 x7_1 ((rd_T115 l0_0 x10_1).f3) [.int .i64 ((rd_T115 l0_0 x10_1).f3)] (fun _ => True) (fun _ => False) rfl qz22_ ?aP (fun _ hk => hk.elim) ?aF ?aO ?aB ?aS ?aL ?_; (case aP => exact rfl); (case aB => exact qz23_); (case aF => exact (fun _ _ => trivial)); (case aO => exact (by (with_reducible repeat (first | apply Kd.R_alloc | apply Kd.R_drewN | apply Kd.R_drew)); exact Kd.R_mono (Kd.R_far (p := ⟨gb106, 3, none⟩) (Kd.R_far (p := ⟨gb106, 2, none⟩) (Kd.R_far (p := ⟨gb106, 1, none⟩) (Kd.R_far (p := ⟨gb106, 0, none⟩) (Kd.R_types HO_7.out BK106.out (by decide)) (fun _ hk => hk.2) (.int .i64 ((rd_T115 l0_0 x10_1).f0))) (fun _ hk => hk.2) (.int .i64 ((rd_T115 l0_0 x10_1).f1))) (fun _ hk => hk.2) (.int .i64 ((rd_T115 l0_0 x10_1).f2))) (fun _ hk => hk.2) (.int .i64 ((rd_T115 l0_0 x10_1).f3))) (fun _ hk => trivial))); (case aS => exact (below_size qz23_)); (case aL => have := LMc28.out; omega); intro v116 w33 ho hb hg hat; rw [← Ny115.out] at ho; have n0_ := am_ (blk_grown (g := gb101) (o := .cells #[.slice (some ad105) l0_0.length c0_0] 63 (0, 0)) qz24_ hg (Kd.R_ne HO_7.out BK101.out (by decide))); have n1_ := am_ (blk_grown (g := gb106) (o := .cells #[.int .i64 ((rd_T115 l0_0 x10_1).f0), .int .i64 ((rd_T115 l0_0 x10_1).f1), .int .i64 ((rd_T115 l0_0 x10_1).f2), .int .i64 ((rd_T115 l0_0 x10_1).f3)] 115 (0, 0)) qz25_ hg (Kd.R_ne HO_7.out BK106.out (by decide))); have n2_ := am_ (hb); have n3_ := am_ (ho); clear BK101; clear BK106; clear HB; clear HO_7; have BK101 := n0_; have BK106 := n1_; have HB := n2_; have HO117 := n3_; clear n0_ n1_ n2_ n3_; clear ho hb hg hat)); try go_wp2_with (first | ((with_reducible refine gate_dst (N := 11) rfl ?_); refine box_event ?hg (N := 11) ?hd (cs := #[.int .i64 0, .int .i64 0, .int .i64 0, .int .i64 0]) (t := 115) ?hr ?_; (case hd => rfl); (case hg => rfl); (case hr => first | (go_simp; done) | (go_simp; rfl)); intro gb106 hg w30 hbox hb; have n0_ := am_ (Kd.R_below qz16_ hb); have n1_ := am_ (blk_below (g := gb101) (o := .cells #[.slice (some ad105) l0_0.length c0_0] 63 (0, 0)) qz11_ hb); have n2_ := am_ (below_step qz10_ hb); have n3_ := am_ (hbox); have n4_ := am_ ((by rw [hg]; exact (below_size qz10_) : w.heap.size ≤ gb106)); have n5_ := am_ ((by rw [hg]; exact (below_size qz10_) : w.heap.size ≤ gb106)); have n6_ := am_ ((by rw [hg]; exact Nat.ne_of_lt (blk_lt (g := gb101) (o := .cells #[.slice (some ad105) l0_0.length c0_0] 63 (0, 0)) qz11_) : gb101 ≠ gb106)); have n7_ := am_ ((by rw [hg]; exact Nat.ne_of_gt (blk_lt (g := gb101) (o := .cells #[.slice (some ad105) l0_0.length c0_0] 63 (0, 0)) qz11_) : gb106 ≠ gb101)); clear HO_7; clear BK101; clear HB; have HO_7 := n0_; have BK101 := n1_; have HB := n2_; have BK106 := n3_; have GW106 := n4_; have GE106 := n5_; have NB101_106 := n6_; have NB106_101 := n7_; clear n0_ n1_ n2_ n3_ n4_ n5_ n6_ n7_; clear hb hbox hg; have hnb31 := NB106_101.out; have hnc31 := NB101_106.out; have hcz32_0 : w30.cell? ⟨gb106, 0, none⟩ = some (.int .i64 0) := (blk_cell BK106.out 0).trans rfl; have hcz32_1 : w30.cell? ⟨gb106, 1, none⟩ = some (.int .i64 0) := (blk_cell BK106.out 1).trans rfl; have hcz32_2 : w30.cell? ⟨gb106, 2, none⟩ = some (.int .i64 0) := (blk_cell BK106.out 2).trans rfl; have hcz32_3 : w30.cell? ⟨gb106, 3, none⟩ = some (.int .i64 0) := (blk_cell BK106.out 3).trans rfl; have hfz32_0 := blk_frozen BK106.out 0; have hfz32_1 := blk_frozen BK106.out 1; have hfz32_2 := blk_frozen BK106.out 2; have hfz32_3 := blk_frozen BK106.out 3) | ((with_reducible refine gate_builtin (b := .append) (xs := #[.tmp 92, .tmp 94]) rfl ?_); at_builtin; refine Kd.R_append (Kd.int .i64) (w0 := w) w.heap.size rfl (.tmp 92) (.tmp 94) 33 3 (.int .i64 0) 8 rfl Try.underlying33 info3 rfl (by decide) (by omega) u7 x7_1 ((rd_T115 l0_0 x10_1).f3) [.int .i64 ((rd_T115 l0_0 x10_1).f3)] (fun _ => True) (fun _ => False) rfl qz22_ ?aP (fun _ hk => hk.elim) ?aF ?aO ?aB ?aS ?aL ?_; (case aP => exact rfl); (case aB => exact qz23_); (case aF => exact (fun _ _ => trivial)); (case aO => exact (by (with_reducible repeat (first | apply Kd.R_alloc | apply Kd.R_drewN | apply Kd.R_drew)); exact Kd.R_mono (Kd.R_far (p := ⟨gb106, 3, none⟩) (Kd.R_far (p := ⟨gb106, 2, none⟩) (Kd.R_far (p := ⟨gb106, 1, none⟩) (Kd.R_far (p := ⟨gb106, 0, none⟩) (Kd.R_types HO_7.out BK106.out (by decide)) (fun _ hk => hk.2) (.int .i64 ((rd_T115 l0_0 x10_1).f0))) (fun _ hk => hk.2) (.int .i64 ((rd_T115 l0_0 x10_1).f1))) (fun _ hk => hk.2) (.int .i64 ((rd_T115 l0_0 x10_1).f2))) (fun _ hk => hk.2) (.int .i64 ((rd_T115 l0_0 x10_1).f3))) (fun _ hk => trivial))); (case aS => exact (below_size qz23_)); (case aL => have := LMc28.out; omega); intro v116 w33 ho hb hg hat; rw [← Ny115.out] at ho; have n0_ := am_ (blk_grown (g := gb101) (o := .cells #[.slice (some ad105) l0_0.length c0_0] 63 (0, 0)) qz24_ hg (Kd.R_ne HO_7.out BK101.out (by decide))); have n1_ := am_ (blk_grown (g := gb106) (o := .cells #[.int .i64 ((rd_T115 l0_0 x10_1).f0), .int .i64 ((rd_T115 l0_0 x10_1).f1), .int .i64 ((rd_T115 l0_0 x10_1).f2), .int .i64 ((rd_T115 l0_0 x10_1).f3)] 115 (0, 0)) qz25_ hg (Kd.R_ne HO_7.out BK106.out (by decide))); have n2_ := am_ (hb); have n3_ := am_ (ho); clear BK101; clear BK106; clear HB; clear HO_7; have BK101 := n0_; have BK106 := n1_; have HB := n2_; have HO117 := n3_; clear n0_ n1_ n2_ n3_; clear ho hb hg hat)))
         go_roundg k1
         case measure => have := HK1.out; omega
         case rel => exact ⟨(y115), (x8_1), (x9_1), (wrap64 (x10_1 + 1)), qz2_, qz2_, qz2_, H', ⟨qz3_⟩, ⟨qz28_⟩, ⟨qz11_⟩, ⟨qz23_⟩⟩
        ·
         rw [if_neg c28] at H
         exact absurd H (by simp)
       ·
        rw [if_neg c27] at H
        have c27b0 : (((rd_T115 l0_0 x10_1).f0) == 3) = false := beq_eq_false_iff_ne.mpr c27
        have c27b1 : (((rd_T115 l0_0 x10_1).f0) != 3) = true := bne_iff_ne.mpr c27
        by_cases c34 : ((rd_T115 l0_0 x10_1).f0) = 4
        ·
         rw [if_pos c34] at H
         have c34b0 : (((rd_T115 l0_0 x10_1).f0) == 4) = true := beq_iff_eq.mpr c34
         have c34b1 : (((rd_T115 l0_0 x10_1).f0) != 4) = false := bne_eq_false_iff_eq.mpr c34
         clear c34
         by_cases c35 : 0 ≤ ((rd_T115 l0_0 x10_1).f1)
         ·
          rw [if_pos c35] at H
          have c35b0 : decide (0 ≤ ((rd_T115 l0_0 x10_1).f1)) = true := decide_eq_true c35
          clear c35
          by_cases c36 : ((rd_T115 l0_0 x10_1).f1) < (x7_1.length : Int)
          ·
           rw [if_pos c36] at H
           have c36b0 : decide (((rd_T115 l0_0 x10_1).f1) < (x7_1.length : Int)) = true := decide_eq_true c36
           clear c36
           by_cases c37 : 0 ≤ ((rd_T115 l0_0 x10_1).f2)
           ·
            rw [if_pos c37] at H
            have c37b0 : decide (0 ≤ ((rd_T115 l0_0 x10_1).f2)) = true := decide_eq_true c37
            clear c37
            by_cases c38 : ((rd_T115 l0_0 x10_1).f2) < (x7_1.length : Int)
            ·
             rw [if_pos c38] at H
             have c38b0 : decide (((rd_T115 l0_0 x10_1).f2) < (x7_1.length : Int)) = true := decide_eq_true c38
             clear c38
             replace H := Option.bind_eq_some_iff.mp H
             obtain ⟨t120, A390, H⟩ := H
             replace H : (if x7_1.length < 17592186044416 then (spec_l11Run.l0 k1 l1 l2 (x7_1 ++ [t120]) x8_1 x9_1 (wrap64 (x10_1 + 1)) l0_0) else (none)) = some r := H
             have A39 := am_ A390
             clear A390
             by_cases c40 : x7_1.length < 17592186044416
             ·
              rw [if_pos c40] at H
              have LMc40 := am_ c40
              clear c40
              obtain ⟨y121, hy121⟩ : ∃ y_ : List Int, y_ = (x7_1 ++ [t120]) := ⟨_, rfl⟩
              replace H : (spec_l11Run.l0 k1 l1 l2 y121 x8_1 x9_1 (wrap64 (x10_1 + 1)) l0_0) = some r := by first | (rw [hy121]; with_reducible exact H) | (have H2_ := (Option.bind_some _ _).symm.trans H; rw [hy121]; with_reducible exact H2_) | (have H2_ := (Option.bind_some _ _).symm.trans H; with_reducible exact H2_) | with_reducible exact H | (rw [hy121]; exact H) | exact H
              have Ny121 := am_ hy121
              clear hy121
              have H' := am_ H
              clear H
              have hcz41_0 : wr.cell? ⟨gb101, 0, none⟩ = some (.slice A0_0 l0_0.length c0_0) := (blk_cell BK101.out 0).trans rfl
              have hfz41_0 := blk_frozen BK101.out 0
              have p105 : 0 ≤ (x10_1 : Int) := of_decide_eq_true qz0_
              have q105 : x10_1 < (l0_0.length : Int) := of_decide_eq_true qz0_
              obtain ⟨ad105, e105, hx105_0, hx105_1, hx105_2, hx105_3⟩ := at_T115 HR0_0.out x10_1 p105 q105
              cases e105
              replace hx105_0 := (HB.out.cell (World.block_lt_of_cell? w _ hx105_0)).trans hx105_0
              replace hx105_1 := (HB.out.cell (World.block_lt_of_cell? w _ hx105_1)).trans hx105_1
              replace hx105_2 := (HB.out.cell (World.block_lt_of_cell? w _ hx105_2)).trans hx105_2
              replace hx105_3 := (HB.out.cell (World.block_lt_of_cell? w _ hx105_3)).trans hx105_3
              replace p105 := eq_true p105
              replace q105 := eq_true q105
              go_wp2_with (first | ((with_reducible refine gate_dst (N := 11) rfl ?_); refine box_event ?hg (N := 11) ?hd (cs := #[.int .i64 0, .int .i64 0, .int .i64 0, .int .i64 0]) (t := 115) ?hr ?_; (case hd => rfl); (case hg => rfl); (case hr => first | (go_simp; done) | (go_simp; rfl)); intro gb106 hg w42 hbox hb; have n0_ := am_ (Kd.R_below qz16_ hb); have n1_ := am_ (blk_below (g := gb101) (o := .cells #[.slice (some ad105) l0_0.length c0_0] 63 (0, 0)) qz11_ hb); have n2_ := am_ (below_step qz10_ hb); have n3_ := am_ (hbox); have n4_ := am_ ((by rw [hg]; exact (below_size qz10_) : w.heap.size ≤ gb106)); have n5_ := am_ ((by rw [hg]; exact (below_size qz10_) : w.heap.size ≤ gb106)); have n6_ := am_ ((by rw [hg]; exact Nat.ne_of_lt (blk_lt (g := gb101) (o := .cells #[.slice (some ad105) l0_0.length c0_0] 63 (0, 0)) qz11_) : gb101 ≠ gb106)); have n7_ := am_ ((by rw [hg]; exact Nat.ne_of_gt (blk_lt (g := gb101) (o := .cells #[.slice (some ad105) l0_0.length c0_0] 63 (0, 0)) qz11_) : gb106 ≠ gb101)); clear HO_7; clear BK101; clear HB; have HO_7 := n0_; have BK101 := n1_; have HB := n2_; have BK106 := n3_; have GW106 := n4_; have GE106 := n5_; have NB101_106 := n6_; have NB106_101 := n7_; clear n0_ n1_ n2_ n3_ n4_ n5_ n6_ n7_; clear hb hbox hg; have hnb43 := NB106_101.out; have hnc43 := NB101_106.out; have hcz44_0 : w42.cell? ⟨gb106, 0, none⟩ = some (.int .i64 0) := (blk_cell BK106.out 0).trans rfl; have hcz44_1 : w42.cell? ⟨gb106, 1, none⟩ = some (.int .i64 0) := (blk_cell BK106.out 1).trans rfl; have hcz44_2 : w42.cell? ⟨gb106, 2, none⟩ = some (.int .i64 0) := (blk_cell BK106.out 2).trans rfl; have hcz44_3 : w42.cell? ⟨gb106, 3, none⟩ = some (.int .i64 0) := (blk_cell BK106.out 3).trans rfl; have hfz44_0 := blk_frozen BK106.out 0; have hfz44_1 := blk_frozen BK106.out 1; have hfz44_2 := blk_frozen BK106.out 2; have hfz44_3 := blk_frozen BK106.out 3; obtain ⟨Ao45, co45, eo45⟩ := Kd.R_slice HO_7.out; subst eo45; have p118 : 0 ≤ (((rd_T115 l0_0 x10_1).f1) : Int) := of_decide_eq_true qz0_; have q118 : ((rd_T115 l0_0 x10_1).f1) < (x7_1.length : Int) := of_decide_eq_true qz0_; obtain ⟨ad118, e118, hx118_0⟩ := Kd.at_int (Kd.R_reads' HO_7.out).2.2 ((rd_T115 l0_0 x10_1).f1) p118 q118; cases e118; have hn118_0 : ad118.block ≠ gb106 := Kd.own_blk (Kd.R_ne HO_7.out BK106.out (by decide)); have hn118_1 : ad118.block ≠ gb106 := Kd.own_blk (Kd.R_ne HO_7.out BK106.out (by decide)); have hn118_2 : ad118.block ≠ gb106 := Kd.own_blk (Kd.R_ne HO_7.out BK106.out (by decide)); have hn118_3 : ad118.block ≠ gb106 := Kd.own_blk (Kd.R_ne HO_7.out BK106.out (by decide)); replace hx118_0 := (cell_far (p := ⟨gb106, 0, none⟩) (by first | (rw [add_block]; exact hn118_0) | (show (Addr.add _ _).block ≠ _; rw [add_block]; exact hn118_0) | exact hn118_0) (.int .i64 ((rd_T115 l0_0 x10_1).f0))).trans hx118_0; replace hx118_0 := (cell_far (p := ⟨gb106, 1, none⟩) (by first | (rw [add_block]; exact hn118_1) | (show (Addr.add _ _).block ≠ _; rw [add_block]; exact hn118_1) | exact hn118_1) (.int .i64 ((rd_T115 l0_0 x10_1).f1))).trans hx118_0; replace hx118_0 := (cell_far (p := ⟨gb106, 2, none⟩) (by first | (rw [add_block]; exact hn118_2) | (show (Addr.add _ _).block ≠ _; rw [add_block]; exact hn118_2) | exact hn118_2) (.int .i64 ((rd_T115 l0_0 x10_1).f2))).trans hx118_0; replace hx118_0 := (cell_far (p := ⟨gb106, 3, none⟩) (by first | (rw [add_block]; exact hn118_3) | (show (Addr.add _ _).block ≠ _; rw [add_block]; exact hn118_3) | exact hn118_3) (.int .i64 ((rd_T115 l0_0 x10_1).f3))).trans hx118_0; (try have hy118_0 := fun (n_ : Nat) => (show ((((((w42.drewN n_).setCell ⟨gb106, 0, none⟩ (.int .i64 ((rd_T115 l0_0 x10_1).f0))).setCell ⟨gb106, 1, none⟩ (.int .i64 ((rd_T115 l0_0 x10_1).f1))).setCell ⟨gb106, 2, none⟩ (.int .i64 ((rd_T115 l0_0 x10_1).f2))).setCell ⟨gb106, 3, none⟩ (.int .i64 ((rd_T115 l0_0 x10_1).f3)))).cell? _ = some _ from hx118_0)); clear hn118_0; clear hn118_1; clear hn118_2; clear hn118_3; replace p118 := eq_true p118; replace q118 := eq_true q118; have p119 : 0 ≤ (((rd_T115 l0_0 x10_1).f2) : Int) := of_decide_eq_true qz0_; have q119 : ((rd_T115 l0_0 x10_1).f2) < (x7_1.length : Int) := of_decide_eq_true qz0_; obtain ⟨ad119, e119, hx119_0⟩ := Kd.at_int (Kd.R_reads' HO_7.out).2.2 ((rd_T115 l0_0 x10_1).f2) p119 q119; obtain rfl : ad118 = ad119 := (by injection e119); have hn119_0 : ad118.block ≠ gb106 := Kd.own_blk (Kd.R_ne HO_7.out BK106.out (by decide)); have hn119_1 : ad118.block ≠ gb106 := Kd.own_blk (Kd.R_ne HO_7.out BK106.out (by decide)); have hn119_2 : ad118.block ≠ gb106 := Kd.own_blk (Kd.R_ne HO_7.out BK106.out (by decide)); have hn119_3 : ad118.block ≠ gb106 := Kd.own_blk (Kd.R_ne HO_7.out BK106.out (by decide)); replace hx119_0 := (cell_far (p := ⟨gb106, 0, none⟩) (by first | (rw [add_block]; exact hn119_0) | (show (Addr.add _ _).block ≠ _; rw [add_block]; exact hn119_0) | exact hn119_0) (.int .i64 ((rd_T115 l0_0 x10_1).f0))).trans hx119_0; replace hx119_0 := (cell_far (p := ⟨gb106, 1, none⟩) (by first | (rw [add_block]; exact hn119_1) | (show (Addr.add _ _).block ≠ _; rw [add_block]; exact hn119_1) | exact hn119_1) (.int .i64 ((rd_T115 l0_0 x10_1).f1))).trans hx119_0; replace hx119_0 := (cell_far (p := ⟨gb106, 2, none⟩) (by first | (rw [add_block]; exact hn119_2) | (show (Addr.add _ _).block ≠ _; rw [add_block]; exact hn119_2) | exact hn119_2) (.int .i64 ((rd_T115 l0_0 x10_1).f2))).trans hx119_0; replace hx119_0 := (cell_far (p := ⟨gb106, 3, none⟩) (by first | (rw [add_block]; exact hn119_3) | (show (Addr.add _ _).block ≠ _; rw [add_block]; exact hn119_3) | exact hn119_3) (.int .i64 ((rd_T115 l0_0 x10_1).f3))).trans hx119_0; (try have hy119_0 := fun (n_ : Nat) => (show ((((((w42.drewN n_).setCell ⟨gb106, 0, none⟩ (.int .i64 ((rd_T115 l0_0 x10_1).f0))).setCell ⟨gb106, 1, none⟩ (.int .i64 ((rd_T115 l0_0 x10_1).f1))).setCell ⟨gb106, 2, none⟩ (.int .i64 ((rd_T115 l0_0 x10_1).f2))).setCell ⟨gb106, 3, none⟩ (.int .i64 ((rd_T115 l0_0 x10_1).f3)))).cell? _ = some _ from hx119_0)); clear hn119_0; clear hn119_1; clear hn119_2; clear hn119_3; replace p119 := eq_true p119; replace q119 := eq_true q119) | (go_at_call 93; (with_reducible refine (spec_l01Add.calls (rd x7_1 ((rd_T115 l0_0 x10_1).f1)) (rd x7_1 ((rd_T115 l0_0 x10_1).f2)) t120 _ A39.out).mono ?_); rintro e w' ⟨rfl, ⟨nd, rfl⟩⟩; (try first | exact ⟨rfl, _, qd1_⟩ | exact ⟨rfl, _, qd2_⟩)) | ((with_reducible refine gate_builtin (b := .append) (xs := #[.tmp 92, .tmp 94]) rfl ?_); at_builtin; refine Kd.R_append (Kd.int .i64) (w0 := w) w.heap.size rfl (.tmp 92) (.tmp 94) 33 3 (.int .i64 0) 8 rfl Try.underlying33 info3 rfl (by decide) (by omega) (.slice (some ad118) x7_1.length co45) x7_1 t120 [.int .i64 t120] (fun _ => True) (fun _ => False) rfl qz22_ ?aP (fun _ hk => hk.elim) ?aF ?aO ?aB ?aS ?aL ?_; (case aP => exact rfl); (case aB => exact qz23_); (case aF => exact (fun _ _ => trivial)); (case aO => exact (by (with_reducible repeat (first | apply Kd.R_alloc | apply Kd.R_drewN | apply Kd.R_drew)); exact Kd.R_mono (Kd.R_far (p := ⟨gb106, 3, none⟩) (Kd.R_far (p := ⟨gb106, 2, none⟩) (Kd.R_far (p := ⟨gb106, 1, none⟩) (Kd.R_far (p := ⟨gb106, 0, none⟩) (Kd.R_types HO_7.out BK106.out (by decide)) (fun _ hk => hk.2) (.int .i64 ((rd_T115 l0_0 x10_1).f0))) (fun _ hk => hk.2) (.int .i64 ((rd_T115 l0_0 x10_1).f1))) (fun _ hk => hk.2) (.int .i64 ((rd_T115 l0_0 x10_1).f2))) (fun _ hk => hk.2) (.int .i64 ((rd_T115 l0_0 x10_1).f3))) (fun _ hk => trivial))); (case aS => exact (below_size qz23_)); (case aL => have := LMc40.out; omega); intro v122 w46 ho hb hg hat; rw [← Ny121.out] at ho; have n0_ := am_ (blk_grown (g := gb101) (o := .cells #[.slice (some ad105) l0_0.length c0_0] 63 (0, 0)) qz24_ hg (Kd.R_ne HO_7.out BK101.out (by decide))); have n1_ := am_ (blk_grown (g := gb106) (o := .cells #[.int .i64 ((rd_T115 l0_0 x10_1).f0), .int .i64 ((rd_T115 l0_0 x10_1).f1), .int .i64 ((rd_T115 l0_0 x10_1).f2), .int .i64 ((rd_T115 l0_0 x10_1).f3)] 115 (0, 0)) qz25_ hg (Kd.R_ne HO_7.out BK106.out (by decide))); have n2_ := am_ (hb); have n3_ := am_ (ho); clear BK101; clear BK106; clear HB; clear HO_7; have BK101 := n0_; have BK106 := n1_; have HB := n2_; have HO123 := n3_; clear n0_ n1_ n2_ n3_; clear ho hb hg hat))
              repeat (go_quiet (first | ((with_reducible refine gate_dst (N := 11) rfl ?_); refine box_event ?hg (N := 11) ?hd (cs := #[.int .i64 0, .int .i64 0, .int .i64 0, .int .i64 0]) (t := 115) ?hr ?_; (case hd => rfl); (case hg => rfl); (case hr => first | (go_simp; done) | (go_simp; rfl)); intro gb106 hg w42 hbox hb; have n0_ := am_ (Kd.R_below qz16_ hb); have n1_ := am_ (blk_below (g := gb101) (o := .cells #[.slice (some ad105) l0_0.length c0_0] 63 (0, 0)) qz11_ hb); have n2_ := am_ (below_step qz10_ hb); have n3_ := am_ (hbox); have n4_ := am_ ((by rw [hg]; exact (below_size qz10_) : w.heap.size ≤ gb106)); have n5_ := am_ ((by rw [hg]; exact (below_size qz10_) : w.heap.size ≤ gb106)); have n6_ := am_ ((by rw [hg]; exact Nat.ne_of_lt (blk_lt (g := gb101) (o := .cells #[.slice (some ad105) l0_0.length c0_0] 63 (0, 0)) qz11_) : gb101 ≠ gb106)); have n7_ := am_ ((by rw [hg]; exact Nat.ne_of_gt (blk_lt (g := gb101) (o := .cells #[.slice (some ad105) l0_0.length c0_0] 63 (0, 0)) qz11_) : gb106 ≠ gb101)); clear HO_7; clear BK101; clear HB; have HO_7 := n0_; have BK101 := n1_; have HB := n2_; have BK106 := n3_; have GW106 := n4_; have GE106 := n5_; have NB101_106 := n6_; have NB106_101 := n7_; clear n0_ n1_ n2_ n3_ n4_ n5_ n6_ n7_; clear hb hbox hg; have hnb43 := NB106_101.out; have hnc43 := NB101_106.out; have hcz44_0 : w42.cell? ⟨gb106, 0, none⟩ = some (.int .i64 0) := (blk_cell BK106.out 0).trans rfl; have hcz44_1 : w42.cell? ⟨gb106, 1, none⟩ = some (.int .i64 0) := (blk_cell BK106.out 1).trans rfl; have hcz44_2 : w42.cell? ⟨gb106, 2, none⟩ = some (.int .i64 0) := (blk_cell BK106.out 2).trans rfl; have hcz44_3 : w42.cell? ⟨gb106, 3, none⟩ = some (.int .i64 0) := (blk_cell BK106.out 3).trans rfl; have hfz44_0 := blk_frozen BK106.out 0; have hfz44_1 := blk_frozen BK106.out 1; have hfz44_2 := blk_frozen BK106.out 2; have hfz44_3 := blk_frozen BK106.out 3; obtain ⟨Ao45, co45, eo45⟩ := Kd.R_slice HO_7.out; subst eo45; have p118 : 0 ≤ (((rd_T115 l0_0 x10_1).f1) : Int) := of_decide_eq_true qz0_; have q118 : ((rd_T115 l0_0 x10_1).f1) < (x7_1.length : Int) := of_decide_eq_true qz0_; obtain ⟨ad118, e118, hx118_0⟩ := Kd.at_int (Kd.R_reads' HO_7.out).2.2 ((rd_T115 l0_0 x10_1).f1) p118 q118; cases e118; have hn118_0 : ad118.block ≠ gb106 := Kd.own_blk (Kd.R_ne HO_7.out BK106.out (by decide)); have hn118_1 : ad118.block ≠ gb106 := Kd.own_blk (Kd.R_ne HO_7.out BK106.out (by decide)); have hn118_2 : ad118.block ≠ gb106 := Kd.own_blk (Kd.R_ne HO_7.out BK106.out (by decide)); have hn118_3 : ad118.block ≠ gb106 := Kd.own_blk (Kd.R_ne HO_7.out BK106.out (by decide)); replace hx118_0 := (cell_far (p := ⟨gb106, 0, none⟩) (by first | (rw [add_block]; exact hn118_0) | (show (Addr.add _ _).block ≠ _; rw [add_block]; exact hn118_0) | exact hn118_0) (.int .i64 ((rd_T115 l0_0 x10_1).f0))).trans hx118_0; replace hx118_0 := (cell_far (p := ⟨gb106, 1, none⟩) (by first | (rw [add_block]; exact hn118_1) | (show (Addr.add _ _).block ≠ _; rw [add_block]; exact hn118_1) | exact hn118_1) (.int .i64 ((rd_T115 l0_0 x10_1).f1))).trans hx118_0; replace hx118_0 := (cell_far (p := ⟨gb106, 2, none⟩) (by first | (rw [add_block]; exact hn118_2) | (show (Addr.add _ _).block ≠ _; rw [add_block]; exact hn118_2) | exact hn118_2) (.int .i64 ((rd_T115 l0_0 x10_1).f2))).trans hx118_0; replace hx118_0 := (cell_far (p := ⟨gb106, 3, none⟩) (by first | (rw [add_block]; exact hn118_3) | (show (Addr.add _ _).block ≠ _; rw [add_block]; exact hn118_3) | exact hn118_3) (.int .i64 ((rd_T115 l0_0 x10_1).f3))).trans hx118_0; (try have hy118_0 := fun (n_ : Nat) => (show ((((((w42.drewN n_).setCell ⟨gb106, 0, none⟩ (.int .i64 ((rd_T115 l0_0 x10_1).f0))).setCell ⟨gb106, 1, none⟩ (.int .i64 ((rd_T115 l0_0 x10_1).f1))).setCell ⟨gb106, 2, none⟩ (.int .i64 ((rd_T115 l0_0 x10_1).f2))).setCell ⟨gb106, 3, none⟩ (.int .i64 ((rd_T115 l0_0 x10_1).f3)))).cell? _ = some _ from hx118_0)); clear hn118_0; clear hn118_1; clear hn118_2; clear hn118_3; replace p118 := eq_true p118; replace q118 := eq_true q118; have p119 : 0 ≤ (((rd_T115 l0_0 x10_1).f2) : Int) := of_decide_eq_true qz0_; have q119 : ((rd_T115 l0_0 x10_1).f2) < (x7_1.length : Int) := of_decide_eq_true qz0_; obtain ⟨ad119, e119, hx119_0⟩ := Kd.at_int (Kd.R_reads' HO_7.out).2.2 ((rd_T115 l0_0 x10_1).f2) p119 q119; obtain rfl : ad118 = ad119 := (by injection e119); have hn119_0 : ad118.block ≠ gb106 := Kd.own_blk (Kd.R_ne HO_7.out BK106.out (by decide)); have hn119_1 : ad118.block ≠ gb106 := Kd.own_blk (Kd.R_ne HO_7.out BK106.out (by decide)); have hn119_2 : ad118.block ≠ gb106 := Kd.own_blk (Kd.R_ne HO_7.out BK106.out (by decide)); have hn119_3 : ad118.block ≠ gb106 := Kd.own_blk (Kd.R_ne HO_7.out BK106.out (by decide)); replace hx119_0 := (cell_far (p := ⟨gb106, 0, none⟩) (by first | (rw [add_block]; exact hn119_0) | (show (Addr.add _ _).block ≠ _; rw [add_block]; exact hn119_0) | exact hn119_0) (.int .i64 ((rd_T115 l0_0 x10_1).f0))).trans hx119_0; replace hx119_0 := (cell_far (p := ⟨gb106, 1, none⟩) (by first | (rw [add_block]; exact hn119_1) | (show (Addr.add _ _).block ≠ _; rw [add_block]; exact hn119_1) | exact hn119_1) (.int .i64 ((rd_T115 l0_0 x10_1).f1))).trans hx119_0; replace hx119_0 := (cell_far (p := ⟨gb106, 2, none⟩) (by first | (rw [add_block]; exact hn119_2) | (show (Addr.add _ _).block ≠ _; rw [add_block]; exact hn119_2) | exact hn119_2) (.int .i64 ((rd_T115 l0_0 x10_1).f2))).trans hx119_0; replace hx119_0 := (cell_far (p := ⟨gb106, 3, none⟩) (by first | (rw [add_block]; exact hn119_3) | (show (Addr.add _ _).block ≠ _; rw [add_block]; exact hn119_3) | exact hn119_3) (.int .i64 ((rd_T115 l0_0 x10_1).f3))).trans hx119_0; (try have hy119_0 := fun (n_ : Nat) => (show ((((((w42.drewN n_).setCell ⟨gb106, 0, none⟩ (.int .i64 ((rd_T115 l0_0 x10_1).f0))).setCell ⟨gb106, 1, none⟩ (.int .i64 ((rd_T115 l0_0 x10_1).f1))).setCell ⟨gb106, 2, none⟩ (.int .i64 ((rd_T115 l0_0 x10_1).f2))).setCell ⟨gb106, 3, none⟩ (.int .i64 ((rd_T115 l0_0 x10_1).f3)))).cell? _ = some _ from hx119_0)); clear hn119_0; clear hn119_1; clear hn119_2; clear hn119_3; replace p119 := eq_true p119; replace q119 := eq_true q119) | (go_at_call 93; (with_reducible refine (spec_l01Add.calls (rd x7_1 ((rd_T115 l0_0 x10_1).f1)) (rd x7_1 ((rd_T115 l0_0 x10_1).f2)) t120 _ A39.out).mono ?_); rintro e w' ⟨rfl, ⟨nd, rfl⟩⟩; (try first | exact ⟨rfl, _, qd1_⟩ | exact ⟨rfl, _, qd2_⟩)) | ((with_reducible refine gate_builtin (b := .append) (xs := #[.tmp 92, .tmp 94]) rfl ?_); at_builtin; refine Kd.R_append (Kd.int .i64) (w0 := w) w.heap.size rfl (.tmp 92) (.tmp 94) 33 3 (.int .i64 0) 8 rfl Try.underlying33 info3 rfl (by decide) (by omega) (.slice (some ad118) x7_1.length co45) x7_1 t120 [.int .i64 t120] (fun _ => True) (fun _ => False) rfl qz22_ ?aP (fun _ hk => hk.elim) ?aF ?aO ?aB ?aS ?aL ?_; (case aP => exact rfl); (case aB => exact qz23_); (case aF => exact (fun _ _ => trivial)); (case aO => exact (by (with_reducible repeat (first | apply Kd.R_alloc | apply Kd.R_drewN | apply Kd.R_drew)); exact Kd.R_mono (Kd.R_far (p := ⟨gb106, 3, none⟩) (Kd.R_far (p := ⟨gb106, 2, none⟩) (Kd.R_far (p := ⟨gb106, 1, none⟩) (Kd.R_far (p := ⟨gb106, 0, none⟩) (Kd.R_types HO_7.out BK106.out (by decide)) (fun _ hk => hk.2) (.int .i64 ((rd_T115 l0_0 x10_1).f0))) (fun _ hk => hk.2) (.int .i64 ((rd_T115 l0_0 x10_1).f1))) (fun _ hk => hk.2) (.int .i64 ((rd_T115 l0_0 x10_1).f2))) (fun _ hk => hk.2) (.int .i64 ((rd_T115 l0_0 x10_1).f3))) (fun _ hk => trivial))); (case aS => exact (below_size qz23_)); (case aL => have := LMc40.out; omega); intro v122 w46 ho hb hg hat; rw [← Ny121.out] at ho; have n0_ := am_ (blk_grown (g := gb101) (o := .cells #[.slice (some ad105) l0_0.length c0_0] 63 (0, 0)) qz24_ hg (Kd.R_ne HO_7.out BK101.out (by decide))); have n1_ := am_ (blk_grown (g := gb106) (o := .cells #[.int .i64 ((rd_T115 l0_0 x10_1).f0), .int .i64 ((rd_T115 l0_0 x10_1).f1), .int .i64 ((rd_T115 l0_0 x10_1).f2), .int .i64 ((rd_T115 l0_0 x10_1).f3)] 115 (0, 0)) qz25_ hg (Kd.R_ne HO_7.out BK106.out (by decide))); have n2_ := am_ (hb); have n3_ := am_ (ho); clear BK101; clear BK106; clear HB; clear HO_7; have BK101 := n0_; have BK106 := n1_; have HB := n2_; have HO123 := n3_; clear n0_ n1_ n2_ n3_; clear ho hb hg hat)); try go_wp2_with (first | ((with_reducible refine gate_dst (N := 11) rfl ?_); refine box_event ?hg (N := 11) ?hd (cs := #[.int .i64 0, .int .i64 0, .int .i64 0, .int .i64 0]) (t := 115) ?hr ?_; (case hd => rfl); (case hg => rfl); (case hr => first | (go_simp; done) | (go_simp; rfl)); intro gb106 hg w42 hbox hb; have n0_ := am_ (Kd.R_below qz16_ hb); have n1_ := am_ (blk_below (g := gb101) (o := .cells #[.slice (some ad105) l0_0.length c0_0] 63 (0, 0)) qz11_ hb); have n2_ := am_ (below_step qz10_ hb); have n3_ := am_ (hbox); have n4_ := am_ ((by rw [hg]; exact (below_size qz10_) : w.heap.size ≤ gb106)); have n5_ := am_ ((by rw [hg]; exact (below_size qz10_) : w.heap.size ≤ gb106)); have n6_ := am_ ((by rw [hg]; exact Nat.ne_of_lt (blk_lt (g := gb101) (o := .cells #[.slice (some ad105) l0_0.length c0_0] 63 (0, 0)) qz11_) : gb101 ≠ gb106)); have n7_ := am_ ((by rw [hg]; exact Nat.ne_of_gt (blk_lt (g := gb101) (o := .cells #[.slice (some ad105) l0_0.length c0_0] 63 (0, 0)) qz11_) : gb106 ≠ gb101)); clear HO_7; clear BK101; clear HB; have HO_7 := n0_; have BK101 := n1_; have HB := n2_; have BK106 := n3_; have GW106 := n4_; have GE106 := n5_; have NB101_106 := n6_; have NB106_101 := n7_; clear n0_ n1_ n2_ n3_ n4_ n5_ n6_ n7_; clear hb hbox hg; have hnb43 := NB106_101.out; have hnc43 := NB101_106.out; have hcz44_0 : w42.cell? ⟨gb106, 0, none⟩ = some (.int .i64 0) := (blk_cell BK106.out 0).trans rfl; have hcz44_1 : w42.cell? ⟨gb106, 1, none⟩ = some (.int .i64 0) := (blk_cell BK106.out 1).trans rfl; have hcz44_2 : w42.cell? ⟨gb106, 2, none⟩ = some (.int .i64 0) := (blk_cell BK106.out 2).trans rfl; have hcz44_3 : w42.cell? ⟨gb106, 3, none⟩ = some (.int .i64 0) := (blk_cell BK106.out 3).trans rfl; have hfz44_0 := blk_frozen BK106.out 0; have hfz44_1 := blk_frozen BK106.out 1; have hfz44_2 := blk_frozen BK106.out 2; have hfz44_3 := blk_frozen BK106.out 3; obtain ⟨Ao45, co45, eo45⟩ := Kd.R_slice HO_7.out; subst eo45; have p118 : 0 ≤ (((rd_T115 l0_0 x10_1).f1) : Int) := of_decide_eq_true qz0_; have q118 : ((rd_T115 l0_0 x10_1).f1) < (x7_1.length : Int) := of_decide_eq_true qz0_; obtain ⟨ad118, e118, hx118_0⟩ := Kd.at_int (Kd.R_reads' HO_7.out).2.2 ((rd_T115 l0_0 x10_1).f1) p118 q118; cases e118; have hn118_0 : ad118.block ≠ gb106 := Kd.own_blk (Kd.R_ne HO_7.out BK106.out (by decide)); have hn118_1 : ad118.block ≠ gb106 := Kd.own_blk (Kd.R_ne HO_7.out BK106.out (by decide)); have hn118_2 : ad118.block ≠ gb106 := Kd.own_blk (Kd.R_ne HO_7.out BK106.out (by decide)); have hn118_3 : ad118.block ≠ gb106 := Kd.own_blk (Kd.R_ne HO_7.out BK106.out (by decide)); replace hx118_0 := (cell_far (p := ⟨gb106, 0, none⟩) (by first | (rw [add_block]; exact hn118_0) | (show (Addr.add _ _).block ≠ _; rw [add_block]; exact hn118_0) | exact hn118_0) (.int .i64 ((rd_T115 l0_0 x10_1).f0))).trans hx118_0; replace hx118_0 := (cell_far (p := ⟨gb106, 1, none⟩) (by first | (rw [add_block]; exact hn118_1) | (show (Addr.add _ _).block ≠ _; rw [add_block]; exact hn118_1) | exact hn118_1) (.int .i64 ((rd_T115 l0_0 x10_1).f1))).trans hx118_0; replace hx118_0 := (cell_far (p := ⟨gb106, 2, none⟩) (by first | (rw [add_block]; exact hn118_2) | (show (Addr.add _ _).block ≠ _; rw [add_block]; exact hn118_2) | exact hn118_2) (.int .i64 ((rd_T115 l0_0 x10_1).f2))).trans hx118_0; replace hx118_0 := (cell_far (p := ⟨gb106, 3, none⟩) (by first | (rw [add_block]; exact hn118_3) | (show (Addr.add _ _).block ≠ _; rw [add_block]; exact hn118_3) | exact hn118_3) (.int .i64 ((rd_T115 l0_0 x10_1).f3))).trans hx118_0; (try have hy118_0 := fun (n_ : Nat) => (show ((((((w42.drewN n_).setCell ⟨gb106, 0, none⟩ (.int .i64 ((rd_T115 l0_0 x10_1).f0))).setCell ⟨gb106, 1, none⟩ (.int .i64 ((rd_T115 l0_0 x10_1).f1))).setCell ⟨gb106, 2, none⟩ (.int .i64 ((rd_T115 l0_0 x10_1).f2))).setCell ⟨gb106, 3, none⟩ (.int .i64 ((rd_T115 l0_0 x10_1).f3)))).cell? _ = some _ from hx118_0)); clear hn118_0; clear hn118_1; clear hn118_2; clear hn118_3; replace p118 := eq_true p118; replace q118 := eq_true q118; have p119 : 0 ≤ (((rd_T115 l0_0 x10_1).f2) : Int) := of_decide_eq_true qz0_; have q119 : ((rd_T115 l0_0 x10_1).f2) < (x7_1.length : Int) := of_decide_eq_true qz0_; obtain ⟨ad119, e119, hx119_0⟩ := Kd.at_int (Kd.R_reads' HO_7.out).2.2 ((rd_T115 l0_0 x10_1).f2) p119 q119; obtain rfl : ad118 = ad119 := (by injection e119); have hn119_0 : ad118.block ≠ gb106 := Kd.own_blk (Kd.R_ne HO_7.out BK106.out (by decide)); have hn119_1 : ad118.block ≠ gb106 := Kd.own_blk (Kd.R_ne HO_7.out BK106.out (by decide)); have hn119_2 : ad118.block ≠ gb106 := Kd.own_blk (Kd.R_ne HO_7.out BK106.out (by decide)); have hn119_3 : ad118.block ≠ gb106 := Kd.own_blk (Kd.R_ne HO_7.out BK106.out (by decide)); replace hx119_0 := (cell_far (p := ⟨gb106, 0, none⟩) (by first | (rw [add_block]; exact hn119_0) | (show (Addr.add _ _).block ≠ _; rw [add_block]; exact hn119_0) | exact hn119_0) (.int .i64 ((rd_T115 l0_0 x10_1).f0))).trans hx119_0; replace hx119_0 := (cell_far (p := ⟨gb106, 1, none⟩) (by first | (rw [add_block]; exact hn119_1) | (show (Addr.add _ _).block ≠ _; rw [add_block]; exact hn119_1) | exact hn119_1) (.int .i64 ((rd_T115 l0_0 x10_1).f1))).trans hx119_0; replace hx119_0 := (cell_far (p := ⟨gb106, 2, none⟩) (by first | (rw [add_block]; exact hn119_2) | (show (Addr.add _ _).block ≠ _; rw [add_block]; exact hn119_2) | exact hn119_2) (.int .i64 ((rd_T115 l0_0 x10_1).f2))).trans hx119_0; replace hx119_0 := (cell_far (p := ⟨gb106, 3, none⟩) (by first | (rw [add_block]; exact hn119_3) | (show (Addr.add _ _).block ≠ _; rw [add_block]; exact hn119_3) | exact hn119_3) (.int .i64 ((rd_T115 l0_0 x10_1).f3))).trans hx119_0; (try have hy119_0 := fun (n_ : Nat) => (show ((((((w42.drewN n_).setCell ⟨gb106, 0, none⟩ (.int .i64 ((rd_T115 l0_0 x10_1).f0))).setCell ⟨gb106, 1, none⟩ (.int .i64 ((rd_T115 l0_0 x10_1).f1))).setCell ⟨gb106, 2, none⟩ (.int .i64 ((rd_T115 l0_0 x10_1).f2))).setCell ⟨gb106, 3, none⟩ (.int .i64 ((rd_T115 l0_0 x10_1).f3)))).cell? _ = some _ from hx119_0)); clear hn119_0; clear hn119_1; clear hn119_2; clear hn119_3; replace p119 := eq_true p119; replace q119 := eq_true q119) | (go_at_call 93; (with_reducible refine (spec_l01Add.calls (rd x7_1 ((rd_T115 l0_0 x10_1).f1)) (rd x7_1 ((rd_T115 l0_0 x10_1).f2)) t120 _ A39.out).mono ?_); rintro e w' ⟨rfl, ⟨nd, rfl⟩⟩; (try first | exact ⟨rfl, _, qd1_⟩ | exact ⟨rfl, _, qd2_⟩)) | ((with_reducible refine gate_builtin (b := .append) (xs := #[.tmp 92, .tmp 94]) rfl ?_); at_builtin; refine Kd.R_append (Kd.int .i64) (w0 := w) w.heap.size rfl (.tmp 92) (.tmp 94) 33 3 (.int .i64 0) 8 rfl Try.underlying33 info3 rfl (by decide) (by omega) (.slice (some ad118) x7_1.length co45) x7_1 t120 [.int .i64 t120] (fun _ => True) (fun _ => False) rfl qz22_ ?aP (fun _ hk => hk.elim) ?aF ?aO ?aB ?aS ?aL ?_; (case aP => exact rfl); (case aB => exact qz23_); (case aF => exact (fun _ _ => trivial)); (case aO => exact (by (with_reducible repeat (first | apply Kd.R_alloc | apply Kd.R_drewN | apply Kd.R_drew)); exact Kd.R_mono (Kd.R_far (p := ⟨gb106, 3, none⟩) (Kd.R_far (p := ⟨gb106, 2, none⟩) (Kd.R_far (p := ⟨gb106, 1, none⟩) (Kd.R_far (p := ⟨gb106, 0, none⟩) (Kd.R_types HO_7.out BK106.out (by decide)) (fun _ hk => hk.2) (.int .i64 ((rd_T115 l0_0 x10_1).f0))) (fun _ hk => hk.2) (.int .i64 ((rd_T115 l0_0 x10_1).f1))) (fun _ hk => hk.2) (.int .i64 ((rd_T115 l0_0 x10_1).f2))) (fun _ hk => hk.2) (.int .i64 ((rd_T115 l0_0 x10_1).f3))) (fun _ hk => trivial))); (case aS => exact (below_size qz23_)); (case aL => have := LMc40.out; omega); intro v122 w46 ho hb hg hat; rw [← Ny121.out] at ho; have n0_ := am_ (blk_grown (g := gb101) (o := .cells #[.slice (some ad105) l0_0.length c0_0] 63 (0, 0)) qz24_ hg (Kd.R_ne HO_7.out BK101.out (by decide))); have n1_ := am_ (blk_grown (g := gb106) (o := .cells #[.int .i64 ((rd_T115 l0_0 x10_1).f0), .int .i64 ((rd_T115 l0_0 x10_1).f1), .int .i64 ((rd_T115 l0_0 x10_1).f2), .int .i64 ((rd_T115 l0_0 x10_1).f3)] 115 (0, 0)) qz25_ hg (Kd.R_ne HO_7.out BK106.out (by decide))); have n2_ := am_ (hb); have n3_ := am_ (ho); clear BK101; clear BK106; clear HB; clear HO_7; have BK101 := n0_; have BK106 := n1_; have HB := n2_; have HO123 := n3_; clear n0_ n1_ n2_ n3_; clear ho hb hg hat)))
              go_roundg k1
              case measure => have := HK1.out; omega
              case rel => exact ⟨(y121), (x8_1), (x9_1), (wrap64 (x10_1 + 1)), qz2_, qz2_, qz2_, H', ⟨qz3_⟩, ⟨(by (with_reducible repeat (first | apply Kd.R_alloc | apply Kd.R_drewN | apply Kd.R_drew)); exact HO123.out)⟩, ⟨qz11_⟩, ⟨qz23_⟩⟩
             ·
              rw [if_neg c40] at H
              exact absurd H (by simp)
            ·
             rw [if_neg c38] at H
             exact absurd H (by simp)
           ·
            rw [if_neg c37] at H
            exact absurd H (by simp)
          ·
           rw [if_neg c36] at H
           exact absurd H (by simp)
         ·
          rw [if_neg c35] at H
          exact absurd H (by simp)
        ·
         rw [if_neg c34] at H
         have c34b0 : (((rd_T115 l0_0 x10_1).f0) == 4) = false := beq_eq_false_iff_ne.mpr c34
         have c34b1 : (((rd_T115 l0_0 x10_1).f0) != 4) = true := bne_iff_ne.mpr c34
         by_cases c47 : ((rd_T115 l0_0 x10_1).f0) = 5
         ·
          rw [if_pos c47] at H
          have c47b0 : (((rd_T115 l0_0 x10_1).f0) == 5) = true := beq_iff_eq.mpr c47
          have c47b1 : (((rd_T115 l0_0 x10_1).f0) != 5) = false := bne_eq_false_iff_eq.mpr c47
          clear c47
          by_cases c48 : 0 ≤ ((rd_T115 l0_0 x10_1).f1)
          ·
           rw [if_pos c48] at H
           have c48b0 : decide (0 ≤ ((rd_T115 l0_0 x10_1).f1)) = true := decide_eq_true c48
           clear c48
           by_cases c49 : ((rd_T115 l0_0 x10_1).f1) < (x7_1.length : Int)
           ·
            rw [if_pos c49] at H
            have c49b0 : decide (((rd_T115 l0_0 x10_1).f1) < (x7_1.length : Int)) = true := decide_eq_true c49
            clear c49
            by_cases c50 : 0 ≤ ((rd_T115 l0_0 x10_1).f2)
            ·
             rw [if_pos c50] at H
             have c50b0 : decide (0 ≤ ((rd_T115 l0_0 x10_1).f2)) = true := decide_eq_true c50
             clear c50
             by_cases c51 : ((rd_T115 l0_0 x10_1).f2) < (x7_1.length : Int)
             ·
              rw [if_pos c51] at H
              have c51b0 : decide (((rd_T115 l0_0 x10_1).f2) < (x7_1.length : Int)) = true := decide_eq_true c51
              clear c51
              replace H := Option.bind_eq_some_iff.mp H
              obtain ⟨t126, A520, H⟩ := H
              replace H : (if x7_1.length < 17592186044416 then (spec_l11Run.l0 k1 l1 l2 (x7_1 ++ [t126]) x8_1 x9_1 (wrap64 (x10_1 + 1)) l0_0) else (none)) = some r := H
              have A52 := am_ A520
              clear A520
              by_cases c53 : x7_1.length < 17592186044416
              ·
               rw [if_pos c53] at H
               have LMc53 := am_ c53
               clear c53
               obtain ⟨y127, hy127⟩ : ∃ y_ : List Int, y_ = (x7_1 ++ [t126]) := ⟨_, rfl⟩
               replace H : (spec_l11Run.l0 k1 l1 l2 y127 x8_1 x9_1 (wrap64 (x10_1 + 1)) l0_0) = some r := by first | (rw [hy127]; with_reducible exact H) | (have H2_ := (Option.bind_some _ _).symm.trans H; rw [hy127]; with_reducible exact H2_) | (have H2_ := (Option.bind_some _ _).symm.trans H; with_reducible exact H2_) | with_reducible exact H | (rw [hy127]; exact H) | exact H
               have Ny127 := am_ hy127
               clear hy127
               have H' := am_ H
               clear H
               have hcz54_0 : wr.cell? ⟨gb101, 0, none⟩ = some (.slice A0_0 l0_0.length c0_0) := (blk_cell BK101.out 0).trans rfl
               have hfz54_0 := blk_frozen BK101.out 0
               have p105 : 0 ≤ (x10_1 : Int) := of_decide_eq_true qz0_
               have q105 : x10_1 < (l0_0.length : Int) := of_decide_eq_true qz0_
               obtain ⟨ad105, e105, hx105_0, hx105_1, hx105_2, hx105_3⟩ := at_T115 HR0_0.out x10_1 p105 q105
               cases e105
               replace hx105_0 := (HB.out.cell (World.block_lt_of_cell? w _ hx105_0)).trans hx105_0
               replace hx105_1 := (HB.out.cell (World.block_lt_of_cell? w _ hx105_1)).trans hx105_1
               replace hx105_2 := (HB.out.cell (World.block_lt_of_cell? w _ hx105_2)).trans hx105_2
               replace hx105_3 := (HB.out.cell (World.block_lt_of_cell? w _ hx105_3)).trans hx105_3
               replace p105 := eq_true p105
               replace q105 := eq_true q105
               go_wp2_with (first | ((with_reducible refine gate_dst (N := 11) rfl ?_); refine box_event ?hg (N := 11) ?hd (cs := #[.int .i64 0, .int .i64 0, .int .i64 0, .int .i64 0]) (t := 115) ?hr ?_; (case hd => rfl); (case hg => rfl); (case hr => first | (go_simp; done) | (go_simp; rfl)); intro gb106 hg w55 hbox hb; have n0_ := am_ (Kd.R_below qz16_ hb); have n1_ := am_ (blk_below (g := gb101) (o := .cells #[.slice (some ad105) l0_0.length c0_0] 63 (0, 0)) qz11_ hb); have n2_ := am_ (below_step qz10_ hb); have n3_ := am_ (hbox); have n4_ := am_ ((by rw [hg]; exact (below_size qz10_) : w.heap.size ≤ gb106)); have n5_ := am_ ((by rw [hg]; exact (below_size qz10_) : w.heap.size ≤ gb106)); have n6_ := am_ ((by rw [hg]; exact Nat.ne_of_lt (blk_lt (g := gb101) (o := .cells #[.slice (some ad105) l0_0.length c0_0] 63 (0, 0)) qz11_) : gb101 ≠ gb106)); have n7_ := am_ ((by rw [hg]; exact Nat.ne_of_gt (blk_lt (g := gb101) (o := .cells #[.slice (some ad105) l0_0.length c0_0] 63 (0, 0)) qz11_) : gb106 ≠ gb101)); clear HO_7; clear BK101; clear HB; have HO_7 := n0_; have BK101 := n1_; have HB := n2_; have BK106 := n3_; have GW106 := n4_; have GE106 := n5_; have NB101_106 := n6_; have NB106_101 := n7_; clear n0_ n1_ n2_ n3_ n4_ n5_ n6_ n7_; clear hb hbox hg; have hnb56 := NB106_101.out; have hnc56 := NB101_106.out; have hcz57_0 : w55.cell? ⟨gb106, 0, none⟩ = some (.int .i64 0) := (blk_cell BK106.out 0).trans rfl; have hcz57_1 : w55.cell? ⟨gb106, 1, none⟩ = some (.int .i64 0) := (blk_cell BK106.out 1).trans rfl; have hcz57_2 : w55.cell? ⟨gb106, 2, none⟩ = some (.int .i64 0) := (blk_cell BK106.out 2).trans rfl; have hcz57_3 : w55.cell? ⟨gb106, 3, none⟩ = some (.int .i64 0) := (blk_cell BK106.out 3).trans rfl; have hfz57_0 := blk_frozen BK106.out 0; have hfz57_1 := blk_frozen BK106.out 1; have hfz57_2 := blk_frozen BK106.out 2; have hfz57_3 := blk_frozen BK106.out 3; obtain ⟨Ao58, co58, eo58⟩ := Kd.R_slice HO_7.out; subst eo58; have p124 : 0 ≤ (((rd_T115 l0_0 x10_1).f1) : Int) := of_decide_eq_true qz0_; have q124 : ((rd_T115 l0_0 x10_1).f1) < (x7_1.length : Int) := of_decide_eq_true qz0_; obtain ⟨ad124, e124, hx124_0⟩ := Kd.at_int (Kd.R_reads' HO_7.out).2.2 ((rd_T115 l0_0 x10_1).f1) p124 q124; cases e124; have hn124_0 : ad124.block ≠ gb106 := Kd.own_blk (Kd.R_ne HO_7.out BK106.out (by decide)); have hn124_1 : ad124.block ≠ gb106 := Kd.own_blk (Kd.R_ne HO_7.out BK106.out (by decide)); have hn124_2 : ad124.block ≠ gb106 := Kd.own_blk (Kd.R_ne HO_7.out BK106.out (by decide)); have hn124_3 : ad124.block ≠ gb106 := Kd.own_blk (Kd.R_ne HO_7.out BK106.out (by decide)); replace hx124_0 := (cell_far (p := ⟨gb106, 0, none⟩) (by first | (rw [add_block]; exact hn124_0) | (show (Addr.add _ _).block ≠ _; rw [add_block]; exact hn124_0) | exact hn124_0) (.int .i64 ((rd_T115 l0_0 x10_1).f0))).trans hx124_0; replace hx124_0 := (cell_far (p := ⟨gb106, 1, none⟩) (by first | (rw [add_block]; exact hn124_1) | (show (Addr.add _ _).block ≠ _; rw [add_block]; exact hn124_1) | exact hn124_1) (.int .i64 ((rd_T115 l0_0 x10_1).f1))).trans hx124_0; replace hx124_0 := (cell_far (p := ⟨gb106, 2, none⟩) (by first | (rw [add_block]; exact hn124_2) | (show (Addr.add _ _).block ≠ _; rw [add_block]; exact hn124_2) | exact hn124_2) (.int .i64 ((rd_T115 l0_0 x10_1).f2))).trans hx124_0; replace hx124_0 := (cell_far (p := ⟨gb106, 3, none⟩) (by first | (rw [add_block]; exact hn124_3) | (show (Addr.add _ _).block ≠ _; rw [add_block]; exact hn124_3) | exact hn124_3) (.int .i64 ((rd_T115 l0_0 x10_1).f3))).trans hx124_0; (try have hy124_0 := fun (n_ : Nat) => (show ((((((w55.drewN n_).setCell ⟨gb106, 0, none⟩ (.int .i64 ((rd_T115 l0_0 x10_1).f0))).setCell ⟨gb106, 1, none⟩ (.int .i64 ((rd_T115 l0_0 x10_1).f1))).setCell ⟨gb106, 2, none⟩ (.int .i64 ((rd_T115 l0_0 x10_1).f2))).setCell ⟨gb106, 3, none⟩ (.int .i64 ((rd_T115 l0_0 x10_1).f3)))).cell? _ = some _ from hx124_0)); clear hn124_0; clear hn124_1; clear hn124_2; clear hn124_3; replace p124 := eq_true p124; replace q124 := eq_true q124; have p125 : 0 ≤ (((rd_T115 l0_0 x10_1).f2) : Int) := of_decide_eq_true qz0_; have q125 : ((rd_T115 l0_0 x10_1).f2) < (x7_1.length : Int) := of_decide_eq_true qz0_; obtain ⟨ad125, e125, hx125_0⟩ := Kd.at_int (Kd.R_reads' HO_7.out).2.2 ((rd_T115 l0_0 x10_1).f2) p125 q125; obtain rfl : ad124 = ad125 := (by injection e125); have hn125_0 : ad124.block ≠ gb106 := Kd.own_blk (Kd.R_ne HO_7.out BK106.out (by decide)); have hn125_1 : ad124.block ≠ gb106 := Kd.own_blk (Kd.R_ne HO_7.out BK106.out (by decide)); have hn125_2 : ad124.block ≠ gb106 := Kd.own_blk (Kd.R_ne HO_7.out BK106.out (by decide)); have hn125_3 : ad124.block ≠ gb106 := Kd.own_blk (Kd.R_ne HO_7.out BK106.out (by decide)); replace hx125_0 := (cell_far (p := ⟨gb106, 0, none⟩) qz29_ (.int .i64 ((rd_T115 l0_0 x10_1).f0))).trans hx125_0; replace hx125_0 := (cell_far (p := ⟨gb106, 1, none⟩) qz30_ (.int .i64 ((rd_T115 l0_0 x10_1).f1))).trans hx125_0; replace hx125_0 := (cell_far (p := ⟨gb106, 2, none⟩) qz31_ (.int .i64 ((rd_T115 l0_0 x10_1).f2))).trans hx125_0; replace hx125_0 := (cell_far (p := ⟨gb106, 3, none⟩) qz32_ (.int .i64 ((rd_T115 l0_0 x10_1).f3))).trans hx125_0; (try have hy125_0 := fun (n_ : Nat) => (show ((((((w55.drewN n_).setCell ⟨gb106, 0, none⟩ (.int .i64 ((rd_T115 l0_0 x10_1).f0))).setCell ⟨gb106, 1, none⟩ (.int .i64 ((rd_T115 l0_0 x10_1).f1))).setCell ⟨gb106, 2, none⟩ (.int .i64 ((rd_T115 l0_0 x10_1).f2))).setCell ⟨gb106, 3, none⟩ (.int .i64 ((rd_T115 l0_0 x10_1).f3)))).cell? _ = some _ from hx125_0)); clear hn125_0; clear hn125_1; clear hn125_2; clear hn125_3; replace p125 := eq_true p125; replace q125 := eq_true q125) | (go_at_call 94; (with_reducible refine (spec_l01Sub.calls (rd x7_1 ((rd_T115 l0_0 x10_1).f1)) (rd x7_1 ((rd_T115 l0_0 x10_1).f2)) t126 _ A52.out).mono ?_); rintro e w' ⟨rfl, ⟨nd, rfl⟩⟩; (try first | exact ⟨rfl, _, qd1_⟩ | exact ⟨rfl, _, qd2_⟩)) | ((with_reducible refine gate_builtin (b := .append) (xs := #[.tmp 92, .tmp 94]) rfl ?_); at_builtin; refine Kd.R_append (Kd.int .i64) (w0 := w) w.heap.size rfl (.tmp 92) (.tmp 94) 33 3 (.int .i64 0) 8 rfl Try.underlying33 info3 rfl (by decide) (by omega) (.slice (some ad124) x7_1.length co58) x7_1 t126 [.int .i64 t126] (fun _ => True) (fun _ => False) rfl qz22_ ?aP (fun _ hk => hk.elim) ?aF ?aO ?aB ?aS ?aL ?_; (case aP => exact rfl); (case aB => exact qz23_); (case aF => exact (fun _ _ => trivial)); (case aO => exact (by (with_reducible repeat (first | apply Kd.R_alloc | apply Kd.R_drewN | apply Kd.R_drew)); exact Kd.R_mono (Kd.R_far (p := ⟨gb106, 3, none⟩) (Kd.R_far (p := ⟨gb106, 2, none⟩) (Kd.R_far (p := ⟨gb106, 1, none⟩) (Kd.R_far (p := ⟨gb106, 0, none⟩) (Kd.R_types HO_7.out BK106.out (by decide)) (fun _ hk => hk.2) (.int .i64 ((rd_T115 l0_0 x10_1).f0))) (fun _ hk => hk.2) (.int .i64 ((rd_T115 l0_0 x10_1).f1))) (fun _ hk => hk.2) (.int .i64 ((rd_T115 l0_0 x10_1).f2))) (fun _ hk => hk.2) (.int .i64 ((rd_T115 l0_0 x10_1).f3))) (fun _ hk => trivial))); (case aS => exact (below_size qz23_)); (case aL => have := LMc53.out; omega); intro v128 w59 ho hb hg hat; rw [← Ny127.out] at ho; have n0_ := am_ (blk_grown (g := gb101) (o := .cells #[.slice (some ad105) l0_0.length c0_0] 63 (0, 0)) qz24_ hg (Kd.R_ne HO_7.out BK101.out (by decide))); have n1_ := am_ (blk_grown (g := gb106) (o := .cells #[.int .i64 ((rd_T115 l0_0 x10_1).f0), .int .i64 ((rd_T115 l0_0 x10_1).f1), .int .i64 ((rd_T115 l0_0 x10_1).f2), .int .i64 ((rd_T115 l0_0 x10_1).f3)] 115 (0, 0)) qz25_ hg (Kd.R_ne HO_7.out BK106.out (by decide))); have n2_ := am_ (hb); have n3_ := am_ (ho); clear BK101; clear BK106; clear HB; clear HO_7; have BK101 := n0_; have BK106 := n1_; have HB := n2_; have HO129 := n3_; clear n0_ n1_ n2_ n3_; clear ho hb hg hat))
               repeat (go_quiet (first | ((with_reducible refine gate_dst (N := 11) rfl ?_); refine box_event ?hg (N := 11) ?hd (cs := #[.int .i64 0, .int .i64 0, .int .i64 0, .int .i64 0]) (t := 115) ?hr ?_; (case hd => rfl); (case hg => rfl); (case hr => first | (go_simp; done) | (go_simp; rfl)); intro gb106 hg w55 hbox hb; have n0_ := am_ (Kd.R_below qz16_ hb); have n1_ := am_ (blk_below (g := gb101) (o := .cells #[.slice (some ad105) l0_0.length c0_0] 63 (0, 0)) qz11_ hb); have n2_ := am_ (below_step qz10_ hb); have n3_ := am_ (hbox); have n4_ := am_ ((by rw [hg]; exact (below_size qz10_) : w.heap.size ≤ gb106)); have n5_ := am_ ((by rw [hg]; exact (below_size qz10_) : w.heap.size ≤ gb106)); have n6_ := am_ ((by rw [hg]; exact Nat.ne_of_lt (blk_lt (g := gb101) (o := .cells #[.slice (some ad105) l0_0.length c0_0] 63 (0, 0)) qz11_) : gb101 ≠ gb106)); have n7_ := am_ ((by rw [hg]; exact Nat.ne_of_gt (blk_lt (g := gb101) (o := .cells #[.slice (some ad105) l0_0.length c0_0] 63 (0, 0)) qz11_) : gb106 ≠ gb101)); clear HO_7; clear BK101; clear HB; have HO_7 := n0_; have BK101 := n1_; have HB := n2_; have BK106 := n3_; have GW106 := n4_; have GE106 := n5_; have NB101_106 := n6_; have NB106_101 := n7_; clear n0_ n1_ n2_ n3_ n4_ n5_ n6_ n7_; clear hb hbox hg; have hnb56 := NB106_101.out; have hnc56 := NB101_106.out; have hcz57_0 : w55.cell? ⟨gb106, 0, none⟩ = some (.int .i64 0) := (blk_cell BK106.out 0).trans rfl; have hcz57_1 : w55.cell? ⟨gb106, 1, none⟩ = some (.int .i64 0) := (blk_cell BK106.out 1).trans rfl; have hcz57_2 : w55.cell? ⟨gb106, 2, none⟩ = some (.int .i64 0) := (blk_cell BK106.out 2).trans rfl; have hcz57_3 : w55.cell? ⟨gb106, 3, none⟩ = some (.int .i64 0) := (blk_cell BK106.out 3).trans rfl; have hfz57_0 := blk_frozen BK106.out 0; have hfz57_1 := blk_frozen BK106.out 1; have hfz57_2 := blk_frozen BK106.out 2; have hfz57_3 := blk_frozen BK106.out 3; obtain ⟨Ao58, co58, eo58⟩ := Kd.R_slice HO_7.out; subst eo58; have p124 : 0 ≤ (((rd_T115 l0_0 x10_1).f1) : Int) := of_decide_eq_true qz0_; have q124 : ((rd_T115 l0_0 x10_1).f1) < (x7_1.length : Int) := of_decide_eq_true qz0_; obtain ⟨ad124, e124, hx124_0⟩ := Kd.at_int (Kd.R_reads' HO_7.out).2.2 ((rd_T115 l0_0 x10_1).f1) p124 q124; cases e124; have hn124_0 : ad124.block ≠ gb106 := Kd.own_blk (Kd.R_ne HO_7.out BK106.out (by decide)); have hn124_1 : ad124.block ≠ gb106 := Kd.own_blk (Kd.R_ne HO_7.out BK106.out (by decide)); have hn124_2 : ad124.block ≠ gb106 := Kd.own_blk (Kd.R_ne HO_7.out BK106.out (by decide)); have hn124_3 : ad124.block ≠ gb106 := Kd.own_blk (Kd.R_ne HO_7.out BK106.out (by decide)); replace hx124_0 := (cell_far (p := ⟨gb106, 0, none⟩) (by first | (rw [add_block]; exact hn124_0) | (show (Addr.add _ _).block ≠ _; rw [add_block]; exact hn124_0) | exact hn124_0) (.int .i64 ((rd_T115 l0_0 x10_1).f0))).trans hx124_0; replace hx124_0 := (cell_far (p := ⟨gb106, 1, none⟩) (by first | (rw [add_block]; exact hn124_1) | (show (Addr.add _ _).block ≠ _; rw [add_block]; exact hn124_1) | exact hn124_1) (.int .i64 ((rd_T115 l0_0 x10_1).f1))).trans hx124_0; replace hx124_0 := (cell_far (p := ⟨gb106, 2, none⟩) (by first | (rw [add_block]; exact hn124_2) | (show (Addr.add _ _).block ≠ _; rw [add_block]; exact hn124_2) | exact hn124_2) (.int .i64 ((rd_T115 l0_0 x10_1).f2))).trans hx124_0; replace hx124_0 := (cell_far (p := ⟨gb106, 3, none⟩) (by first | (rw [add_block]; exact hn124_3) | (show (Addr.add _ _).block ≠ _; rw [add_block]; exact hn124_3) | exact hn124_3) (.int .i64 ((rd_T115 l0_0 x10_1).f3))).trans hx124_0; (try have hy124_0 := fun (n_ : Nat) => (show ((((((w55.drewN n_).setCell ⟨gb106, 0, none⟩ (.int .i64 ((rd_T115 l0_0 x10_1).f0))).setCell ⟨gb106, 1, none⟩ (.int .i64 ((rd_T115 l0_0 x10_1).f1))).setCell ⟨gb106, 2, none⟩ (.int .i64 ((rd_T115 l0_0 x10_1).f2))).setCell ⟨gb106, 3, none⟩ (.int .i64 ((rd_T115 l0_0 x10_1).f3)))).cell? _ = some _ from hx124_0)); clear hn124_0; clear hn124_1; clear hn124_2; clear hn124_3; replace p124 := eq_true p124; replace q124 := eq_true q124; have p125 : 0 ≤ (((rd_T115 l0_0 x10_1).f2) : Int) := of_decide_eq_true qz0_; have q125 : ((rd_T115 l0_0 x10_1).f2) < (x7_1.length : Int) := of_decide_eq_true qz0_; obtain ⟨ad125, e125, hx125_0⟩ := Kd.at_int (Kd.R_reads' HO_7.out).2.2 ((rd_T115 l0_0 x10_1).f2) p125 q125; obtain rfl : ad124 = ad125 := (by injection e125); have hn125_0 : ad124.block ≠ gb106 := Kd.own_blk (Kd.R_ne HO_7.out BK106.out (by decide)); have hn125_1 : ad124.block ≠ gb106 := Kd.own_blk (Kd.R_ne HO_7.out BK106.out (by decide)); have hn125_2 : ad124.block ≠ gb106 := Kd.own_blk (Kd.R_ne HO_7.out BK106.out (by decide)); have hn125_3 : ad124.block ≠ gb106 := Kd.own_blk (Kd.R_ne HO_7.out BK106.out (by decide)); replace hx125_0 := (cell_far (p := ⟨gb106, 0, none⟩) qz29_ (.int .i64 ((rd_T115 l0_0 x10_1).f0))).trans hx125_0; replace hx125_0 := (cell_far (p := ⟨gb106, 1, none⟩) qz30_ (.int .i64 ((rd_T115 l0_0 x10_1).f1))).trans hx125_0; replace hx125_0 := (cell_far (p := ⟨gb106, 2, none⟩) qz31_ (.int .i64 ((rd_T115 l0_0 x10_1).f2))).trans hx125_0; replace hx125_0 := (cell_far (p := ⟨gb106, 3, none⟩) qz32_ (.int .i64 ((rd_T115 l0_0 x10_1).f3))).trans hx125_0; (try have hy125_0 := fun (n_ : Nat) => (show ((((((w55.drewN n_).setCell ⟨gb106, 0, none⟩ (.int .i64 ((rd_T115 l0_0 x10_1).f0))).setCell ⟨gb106, 1, none⟩ (.int .i64 ((rd_T115 l0_0 x10_1).f1))).setCell ⟨gb106, 2, none⟩ (.int .i64 ((rd_T115 l0_0 x10_1).f2))).setCell ⟨gb106, 3, none⟩ (.int .i64 ((rd_T115 l0_0 x10_1).f3)))).cell? _ = some _ from hx125_0)); clear hn125_0; clear hn125_1; clear hn125_2; clear hn125_3; replace p125 := eq_true p125; replace q125 := eq_true q125) | (go_at_call 94; (with_reducible refine (spec_l01Sub.calls (rd x7_1 ((rd_T115 l0_0 x10_1).f1)) (rd x7_1 ((rd_T115 l0_0 x10_1).f2)) t126 _ A52.out).mono ?_); rintro e w' ⟨rfl, ⟨nd, rfl⟩⟩; (try first | exact ⟨rfl, _, qd1_⟩ | exact ⟨rfl, _, qd2_⟩)) | ((with_reducible refine gate_builtin (b := .append) (xs := #[.tmp 92, .tmp 94]) rfl ?_); at_builtin; refine Kd.R_append (Kd.int .i64) (w0 := w) w.heap.size rfl (.tmp 92) (.tmp 94) 33 3 (.int .i64 0) 8 rfl Try.underlying33 info3 rfl (by decide) (by omega) (.slice (some ad124) x7_1.length co58) x7_1 t126 [.int .i64 t126] (fun _ => True) (fun _ => False) rfl qz22_ ?aP (fun _ hk => hk.elim) ?aF ?aO ?aB ?aS ?aL ?_; (case aP => exact rfl); (case aB => exact qz23_); (case aF => exact (fun _ _ => trivial)); (case aO => exact (by (with_reducible repeat (first | apply Kd.R_alloc | apply Kd.R_drewN | apply Kd.R_drew)); exact Kd.R_mono (Kd.R_far (p := ⟨gb106, 3, none⟩) (Kd.R_far (p := ⟨gb106, 2, none⟩) (Kd.R_far (p := ⟨gb106, 1, none⟩) (Kd.R_far (p := ⟨gb106, 0, none⟩) (Kd.R_types HO_7.out BK106.out (by decide)) (fun _ hk => hk.2) (.int .i64 ((rd_T115 l0_0 x10_1).f0))) (fun _ hk => hk.2) (.int .i64 ((rd_T115 l0_0 x10_1).f1))) (fun _ hk => hk.2) (.int .i64 ((rd_T115 l0_0 x10_1).f2))) (fun _ hk => hk.2) (.int .i64 ((rd_T115 l0_0 x10_1).f3))) (fun _ hk => trivial))); (case aS => exact (below_size qz23_)); (case aL => have := LMc53.out; omega); intro v128 w59 ho hb hg hat; rw [← Ny127.out] at ho; have n0_ := am_ (blk_grown (g := gb101) (o := .cells #[.slice (some ad105) l0_0.length c0_0] 63 (0, 0)) qz24_ hg (Kd.R_ne HO_7.out BK101.out (by decide))); have n1_ := am_ (blk_grown (g := gb106) (o := .cells #[.int .i64 ((rd_T115 l0_0 x10_1).f0), .int .i64 ((rd_T115 l0_0 x10_1).f1), .int .i64 ((rd_T115 l0_0 x10_1).f2), .int .i64 ((rd_T115 l0_0 x10_1).f3)] 115 (0, 0)) qz25_ hg (Kd.R_ne HO_7.out BK106.out (by decide))); have n2_ := am_ (hb); have n3_ := am_ (ho); clear BK101; clear BK106; clear HB; clear HO_7; have BK101 := n0_; have BK106 := n1_; have HB := n2_; have HO129 := n3_; clear n0_ n1_ n2_ n3_; clear ho hb hg hat)); try go_wp2_with (first | ((with_reducible refine gate_dst (N := 11) rfl ?_); refine box_event ?hg (N := 11) ?hd (cs := #[.int .i64 0, .int .i64 0, .int .i64 0, .int .i64 0]) (t := 115) ?hr ?_; (case hd => rfl); (case hg => rfl); (case hr => first | (go_simp; done) | (go_simp; rfl)); intro gb106 hg w55 hbox hb; have n0_ := am_ (Kd.R_below qz16_ hb); have n1_ := am_ (blk_below (g := gb101) (o := .cells #[.slice (some ad105) l0_0.length c0_0] 63 (0, 0)) qz11_ hb); have n2_ := am_ (below_step qz10_ hb); have n3_ := am_ (hbox); have n4_ := am_ ((by rw [hg]; exact (below_size qz10_) : w.heap.size ≤ gb106)); have n5_ := am_ ((by rw [hg]; exact (below_size qz10_) : w.heap.size ≤ gb106)); have n6_ := am_ ((by rw [hg]; exact Nat.ne_of_lt (blk_lt (g := gb101) (o := .cells #[.slice (some ad105) l0_0.length c0_0] 63 (0, 0)) qz11_) : gb101 ≠ gb106)); have n7_ := am_ ((by rw [hg]; exact Nat.ne_of_gt (blk_lt (g := gb101) (o := .cells #[.slice (some ad105) l0_0.length c0_0] 63 (0, 0)) qz11_) : gb106 ≠ gb101)); clear HO_7; clear BK101; clear HB; have HO_7 := n0_; have BK101 := n1_; have HB := n2_; have BK106 := n3_; have GW106 := n4_; have GE106 := n5_; have NB101_106 := n6_; have NB106_101 := n7_; clear n0_ n1_ n2_ n3_ n4_ n5_ n6_ n7_; clear hb hbox hg; have hnb56 := NB106_101.out; have hnc56 := NB101_106.out; have hcz57_0 : w55.cell? ⟨gb106, 0, none⟩ = some (.int .i64 0) := (blk_cell BK106.out 0).trans rfl; have hcz57_1 : w55.cell? ⟨gb106, 1, none⟩ = some (.int .i64 0) := (blk_cell BK106.out 1).trans rfl; have hcz57_2 : w55.cell? ⟨gb106, 2, none⟩ = some (.int .i64 0) := (blk_cell BK106.out 2).trans rfl; have hcz57_3 : w55.cell? ⟨gb106, 3, none⟩ = some (.int .i64 0) := (blk_cell BK106.out 3).trans rfl; have hfz57_0 := blk_frozen BK106.out 0; have hfz57_1 := blk_frozen BK106.out 1; have hfz57_2 := blk_frozen BK106.out 2; have hfz57_3 := blk_frozen BK106.out 3; obtain ⟨Ao58, co58, eo58⟩ := Kd.R_slice HO_7.out; subst eo58; have p124 : 0 ≤ (((rd_T115 l0_0 x10_1).f1) : Int) := of_decide_eq_true qz0_; have q124 : ((rd_T115 l0_0 x10_1).f1) < (x7_1.length : Int) := of_decide_eq_true qz0_; obtain ⟨ad124, e124, hx124_0⟩ := Kd.at_int (Kd.R_reads' HO_7.out).2.2 ((rd_T115 l0_0 x10_1).f1) p124 q124; cases e124; have hn124_0 : ad124.block ≠ gb106 := Kd.own_blk (Kd.R_ne HO_7.out BK106.out (by decide)); have hn124_1 : ad124.block ≠ gb106 := Kd.own_blk (Kd.R_ne HO_7.out BK106.out (by decide)); have hn124_2 : ad124.block ≠ gb106 := Kd.own_blk (Kd.R_ne HO_7.out BK106.out (by decide)); have hn124_3 : ad124.block ≠ gb106 := Kd.own_blk (Kd.R_ne HO_7.out BK106.out (by decide)); replace hx124_0 := (cell_far (p := ⟨gb106, 0, none⟩) (by first | (rw [add_block]; exact hn124_0) | (show (Addr.add _ _).block ≠ _; rw [add_block]; exact hn124_0) | exact hn124_0) (.int .i64 ((rd_T115 l0_0 x10_1).f0))).trans hx124_0; replace hx124_0 := (cell_far (p := ⟨gb106, 1, none⟩) (by first | (rw [add_block]; exact hn124_1) | (show (Addr.add _ _).block ≠ _; rw [add_block]; exact hn124_1) | exact hn124_1) (.int .i64 ((rd_T115 l0_0 x10_1).f1))).trans hx124_0; replace hx124_0 := (cell_far (p := ⟨gb106, 2, none⟩) (by first | (rw [add_block]; exact hn124_2) | (show (Addr.add _ _).block ≠ _; rw [add_block]; exact hn124_2) | exact hn124_2) (.int .i64 ((rd_T115 l0_0 x10_1).f2))).trans hx124_0; replace hx124_0 := (cell_far (p := ⟨gb106, 3, none⟩) (by first | (rw [add_block]; exact hn124_3) | (show (Addr.add _ _).block ≠ _; rw [add_block]; exact hn124_3) | exact hn124_3) (.int .i64 ((rd_T115 l0_0 x10_1).f3))).trans hx124_0; (try have hy124_0 := fun (n_ : Nat) => (show ((((((w55.drewN n_).setCell ⟨gb106, 0, none⟩ (.int .i64 ((rd_T115 l0_0 x10_1).f0))).setCell ⟨gb106, 1, none⟩ (.int .i64 ((rd_T115 l0_0 x10_1).f1))).setCell ⟨gb106, 2, none⟩ (.int .i64 ((rd_T115 l0_0 x10_1).f2))).setCell ⟨gb106, 3, none⟩ (.int .i64 ((rd_T115 l0_0 x10_1).f3)))).cell? _ = some _ from hx124_0)); clear hn124_0; clear hn124_1; clear hn124_2; clear hn124_3; replace p124 := eq_true p124; replace q124 := eq_true q124; have p125 : 0 ≤ (((rd_T115 l0_0 x10_1).f2) : Int) := of_decide_eq_true qz0_; have q125 : ((rd_T115 l0_0 x10_1).f2) < (x7_1.length : Int) := of_decide_eq_true qz0_; obtain ⟨ad125, e125, hx125_0⟩ := Kd.at_int (Kd.R_reads' HO_7.out).2.2 ((rd_T115 l0_0 x10_1).f2) p125 q125; obtain rfl : ad124 = ad125 := (by injection e125); have hn125_0 : ad124.block ≠ gb106 := Kd.own_blk (Kd.R_ne HO_7.out BK106.out (by decide)); have hn125_1 : ad124.block ≠ gb106 := Kd.own_blk (Kd.R_ne HO_7.out BK106.out (by decide)); have hn125_2 : ad124.block ≠ gb106 := Kd.own_blk (Kd.R_ne HO_7.out BK106.out (by decide)); have hn125_3 : ad124.block ≠ gb106 := Kd.own_blk (Kd.R_ne HO_7.out BK106.out (by decide)); replace hx125_0 := (cell_far (p := ⟨gb106, 0, none⟩) qz29_ (.int .i64 ((rd_T115 l0_0 x10_1).f0))).trans hx125_0; replace hx125_0 := (cell_far (p := ⟨gb106, 1, none⟩) qz30_ (.int .i64 ((rd_T115 l0_0 x10_1).f1))).trans hx125_0; replace hx125_0 := (cell_far (p := ⟨gb106, 2, none⟩) qz31_ (.int .i64 ((rd_T115 l0_0 x10_1).f2))).trans hx125_0; replace hx125_0 := (cell_far (p := ⟨gb106, 3, none⟩) qz32_ (.int .i64 ((rd_T115 l0_0 x10_1).f3))).trans hx125_0; (try have hy125_0 := fun (n_ : Nat) => (show ((((((w55.drewN n_).setCell ⟨gb106, 0, none⟩ (.int .i64 ((rd_T115 l0_0 x10_1).f0))).setCell ⟨gb106, 1, none⟩ (.int .i64 ((rd_T115 l0_0 x10_1).f1))).setCell ⟨gb106, 2, none⟩ (.int .i64 ((rd_T115 l0_0 x10_1).f2))).setCell ⟨gb106, 3, none⟩ (.int .i64 ((rd_T115 l0_0 x10_1).f3)))).cell? _ = some _ from hx125_0)); clear hn125_0; clear hn125_1; clear hn125_2; clear hn125_3; replace p125 := eq_true p125; replace q125 := eq_true q125) | (go_at_call 94; (with_reducible refine (spec_l01Sub.calls (rd x7_1 ((rd_T115 l0_0 x10_1).f1)) (rd x7_1 ((rd_T115 l0_0 x10_1).f2)) t126 _ A52.out).mono ?_); rintro e w' ⟨rfl, ⟨nd, rfl⟩⟩; (try first | exact ⟨rfl, _, qd1_⟩ | exact ⟨rfl, _, qd2_⟩)) | ((with_reducible refine gate_builtin (b := .append) (xs := #[.tmp 92, .tmp 94]) rfl ?_); at_builtin; refine Kd.R_append (Kd.int .i64) (w0 := w) w.heap.size rfl (.tmp 92) (.tmp 94) 33 3 (.int .i64 0) 8 rfl Try.underlying33 info3 rfl (by decide) (by omega) (.slice (some ad124) x7_1.length co58) x7_1 t126 [.int .i64 t126] (fun _ => True) (fun _ => False) rfl qz22_ ?aP (fun _ hk => hk.elim) ?aF ?aO ?aB ?aS ?aL ?_; (case aP => exact rfl); (case aB => exact qz23_); (case aF => exact (fun _ _ => trivial)); (case aO => exact (by (with_reducible repeat (first | apply Kd.R_alloc | apply Kd.R_drewN | apply Kd.R_drew)); exact Kd.R_mono (Kd.R_far (p := ⟨gb106, 3, none⟩) (Kd.R_far (p := ⟨gb106, 2, none⟩) (Kd.R_far (p := ⟨gb106, 1, none⟩) (Kd.R_far (p := ⟨gb106, 0, none⟩) (Kd.R_types HO_7.out BK106.out (by decide)) (fun _ hk => hk.2) (.int .i64 ((rd_T115 l0_0 x10_1).f0))) (fun _ hk => hk.2) (.int .i64 ((rd_T115 l0_0 x10_1).f1))) (fun _ hk => hk.2) (.int .i64 ((rd_T115 l0_0 x10_1).f2))) (fun _ hk => hk.2) (.int .i64 ((rd_T115 l0_0 x10_1).f3))) (fun _ hk => trivial))); (case aS => exact (below_size qz23_)); (case aL => have := LMc53.out; omega); intro v128 w59 ho hb hg hat; rw [← Ny127.out] at ho; have n0_ := am_ (blk_grown (g := gb101) (o := .cells #[.slice (some ad105) l0_0.length c0_0] 63 (0, 0)) qz24_ hg (Kd.R_ne HO_7.out BK101.out (by decide))); have n1_ := am_ (blk_grown (g := gb106) (o := .cells #[.int .i64 ((rd_T115 l0_0 x10_1).f0), .int .i64 ((rd_T115 l0_0 x10_1).f1), .int .i64 ((rd_T115 l0_0 x10_1).f2), .int .i64 ((rd_T115 l0_0 x10_1).f3)] 115 (0, 0)) qz25_ hg (Kd.R_ne HO_7.out BK106.out (by decide))); have n2_ := am_ (hb); have n3_ := am_ (ho); clear BK101; clear BK106; clear HB; clear HO_7; have BK101 := n0_; have BK106 := n1_; have HB := n2_; have HO129 := n3_; clear n0_ n1_ n2_ n3_; clear ho hb hg hat)))
               go_roundg k1
               case measure => have := HK1.out; omega
               case rel => exact ⟨(y127), (x8_1), (x9_1), (wrap64 (x10_1 + 1)), qz2_, qz2_, qz2_, H', ⟨qz3_⟩, ⟨(by (with_reducible repeat (first | apply Kd.R_alloc | apply Kd.R_drewN | apply Kd.R_drew)); exact HO129.out)⟩, ⟨qz11_⟩, ⟨qz23_⟩⟩
              ·
               rw [if_neg c53] at H
               exact absurd H (by simp)
             ·
              rw [if_neg c51] at H
              exact absurd H (by simp)
            ·
             rw [if_neg c50] at H
             exact absurd H (by simp)
           ·
            rw [if_neg c49] at H
            exact absurd H (by simp)
          ·
           rw [if_neg c48] at H
           exact absurd H (by simp)
         ·
          rw [if_neg c47] at H
          have c47b0 : (((rd_T115 l0_0 x10_1).f0) == 5) = false := beq_eq_false_iff_ne.mpr c47
          have c47b1 : (((rd_T115 l0_0 x10_1).f0) != 5) = true := bne_iff_ne.mpr c47
          by_cases c60 : ((rd_T115 l0_0 x10_1).f0) = 6
          ·
           rw [if_pos c60] at H
           have c60b0 : (((rd_T115 l0_0 x10_1).f0) == 6) = true := beq_iff_eq.mpr c60
           have c60b1 : (((rd_T115 l0_0 x10_1).f0) != 6) = false := bne_eq_false_iff_eq.mpr c60
           clear c60
           by_cases c61 : 0 ≤ ((rd_T115 l0_0 x10_1).f1)
           ·
            rw [if_pos c61] at H
            have c61b0 : decide (0 ≤ ((rd_T115 l0_0 x10_1).f1)) = true := decide_eq_true c61
            clear c61
            by_cases c62 : ((rd_T115 l0_0 x10_1).f1) < (x7_1.length : Int)
            ·
             rw [if_pos c62] at H
             have c62b0 : decide (((rd_T115 l0_0 x10_1).f1) < (x7_1.length : Int)) = true := decide_eq_true c62
             clear c62
             by_cases c63 : 0 ≤ ((rd_T115 l0_0 x10_1).f2)
             ·
              rw [if_pos c63] at H
              have c63b0 : decide (0 ≤ ((rd_T115 l0_0 x10_1).f2)) = true := decide_eq_true c63
              clear c63
              by_cases c64 : ((rd_T115 l0_0 x10_1).f2) < (x7_1.length : Int)
              ·
               rw [if_pos c64] at H
               have c64b0 : decide (((rd_T115 l0_0 x10_1).f2) < (x7_1.length : Int)) = true := decide_eq_true c64
               clear c64
               replace H := Option.bind_eq_some_iff.mp H
               obtain ⟨t132, A650, H⟩ := H
               replace H : (if x7_1.length < 17592186044416 then (spec_l11Run.l0 k1 l1 l2 (x7_1 ++ [t132]) x8_1 x9_1 (wrap64 (x10_1 + 1)) l0_0) else (none)) = some r := H
               have A65 := am_ A650
               clear A650
               by_cases c66 : x7_1.length < 17592186044416
               ·
                rw [if_pos c66] at H
                have LMc66 := am_ c66
                clear c66
                obtain ⟨y133, hy133⟩ : ∃ y_ : List Int, y_ = (x7_1 ++ [t132]) := ⟨_, rfl⟩
                replace H : (spec_l11Run.l0 k1 l1 l2 y133 x8_1 x9_1 (wrap64 (x10_1 + 1)) l0_0) = some r := by first | (rw [hy133]; with_reducible exact H) | (have H2_ := (Option.bind_some _ _).symm.trans H; rw [hy133]; with_reducible exact H2_) | (have H2_ := (Option.bind_some _ _).symm.trans H; with_reducible exact H2_) | with_reducible exact H | (rw [hy133]; exact H) | exact H
                have Ny133 := am_ hy133
                clear hy133
                have H' := am_ H
                clear H
                have hcz67_0 : wr.cell? ⟨gb101, 0, none⟩ = some (.slice A0_0 l0_0.length c0_0) := (blk_cell BK101.out 0).trans rfl
                have hfz67_0 := blk_frozen BK101.out 0
                have p105 : 0 ≤ (x10_1 : Int) := of_decide_eq_true qz0_
                have q105 : x10_1 < (l0_0.length : Int) := of_decide_eq_true qz0_
                obtain ⟨ad105, e105, hx105_0, hx105_1, hx105_2, hx105_3⟩ := at_T115 HR0_0.out x10_1 p105 q105
                cases e105
                replace hx105_0 := (HB.out.cell (World.block_lt_of_cell? w _ hx105_0)).trans hx105_0
                replace hx105_1 := (HB.out.cell (World.block_lt_of_cell? w _ hx105_1)).trans hx105_1
                replace hx105_2 := (HB.out.cell (World.block_lt_of_cell? w _ hx105_2)).trans hx105_2
                replace hx105_3 := (HB.out.cell (World.block_lt_of_cell? w _ hx105_3)).trans hx105_3
                replace p105 := eq_true p105
                replace q105 := eq_true q105
                go_wp2_with (first | ((with_reducible refine gate_dst (N := 11) rfl ?_); refine box_event ?hg (N := 11) ?hd (cs := #[.int .i64 0, .int .i64 0, .int .i64 0, .int .i64 0]) (t := 115) ?hr ?_; (case hd => rfl); (case hg => rfl); (case hr => first | (go_simp; done) | (go_simp; rfl)); intro gb106 hg w68 hbox hb; have n0_ := am_ (Kd.R_below qz16_ hb); have n1_ := am_ (blk_below (g := gb101) (o := .cells #[.slice (some ad105) l0_0.length c0_0] 63 (0, 0)) qz11_ hb); have n2_ := am_ (below_step qz10_ hb); have n3_ := am_ (hbox); have n4_ := am_ ((by rw [hg]; exact (below_size qz10_) : w.heap.size ≤ gb106)); have n5_ := am_ ((by rw [hg]; exact (below_size qz10_) : w.heap.size ≤ gb106)); have n6_ := am_ ((by rw [hg]; exact Nat.ne_of_lt (blk_lt (g := gb101) (o := .cells #[.slice (some ad105) l0_0.length c0_0] 63 (0, 0)) qz11_) : gb101 ≠ gb106)); have n7_ := am_ ((by rw [hg]; exact Nat.ne_of_gt (blk_lt (g := gb101) (o := .cells #[.slice (some ad105) l0_0.length c0_0] 63 (0, 0)) qz11_) : gb106 ≠ gb101)); clear HO_7; clear BK101; clear HB; have HO_7 := n0_; have BK101 := n1_; have HB := n2_; have BK106 := n3_; have GW106 := n4_; have GE106 := n5_; have NB101_106 := n6_; have NB106_101 := n7_; clear n0_ n1_ n2_ n3_ n4_ n5_ n6_ n7_; clear hb hbox hg; have hnb69 := NB106_101.out; have hnc69 := NB101_106.out; have hcz70_0 : w68.cell? ⟨gb106, 0, none⟩ = some (.int .i64 0) := (blk_cell BK106.out 0).trans rfl; have hcz70_1 : w68.cell? ⟨gb106, 1, none⟩ = some (.int .i64 0) := (blk_cell BK106.out 1).trans rfl; have hcz70_2 : w68.cell? ⟨gb106, 2, none⟩ = some (.int .i64 0) := (blk_cell BK106.out 2).trans rfl; have hcz70_3 : w68.cell? ⟨gb106, 3, none⟩ = some (.int .i64 0) := (blk_cell BK106.out 3).trans rfl; have hfz70_0 := blk_frozen BK106.out 0; have hfz70_1 := blk_frozen BK106.out 1; have hfz70_2 := blk_frozen BK106.out 2; have hfz70_3 := blk_frozen BK106.out 3; obtain ⟨Ao71, co71, eo71⟩ := Kd.R_slice HO_7.out; subst eo71; have p130 : 0 ≤ (((rd_T115 l0_0 x10_1).f1) : Int) := of_decide_eq_true qz0_; have q130 : ((rd_T115 l0_0 x10_1).f1) < (x7_1.length : Int) := of_decide_eq_true qz0_; obtain ⟨ad130, e130, hx130_0⟩ := Kd.at_int (Kd.R_reads' HO_7.out).2.2 ((rd_T115 l0_0 x10_1).f1) p130 q130; cases e130; have hn130_0 : ad130.block ≠ gb106 := Kd.own_blk (Kd.R_ne HO_7.out BK106.out (by decide)); have hn130_1 : ad130.block ≠ gb106 := Kd.own_blk (Kd.R_ne HO_7.out BK106.out (by decide)); have hn130_2 : ad130.block ≠ gb106 := Kd.own_blk (Kd.R_ne HO_7.out BK106.out (by decide)); have hn130_3 : ad130.block ≠ gb106 := Kd.own_blk (Kd.R_ne HO_7.out BK106.out (by decide)); replace hx130_0 := (cell_far (p := ⟨gb106, 0, none⟩) (by first | (rw [add_block]; exact hn130_0) | (show (Addr.add _ _).block ≠ _; rw [add_block]; exact hn130_0) | exact hn130_0) (.int .i64 ((rd_T115 l0_0 x10_1).f0))).trans hx130_0; replace hx130_0 := (cell_far (p := ⟨gb106, 1, none⟩) (by first | (rw [add_block]; exact hn130_1) | (show (Addr.add _ _).block ≠ _; rw [add_block]; exact hn130_1) | exact hn130_1) (.int .i64 ((rd_T115 l0_0 x10_1).f1))).trans hx130_0; replace hx130_0 := (cell_far (p := ⟨gb106, 2, none⟩) (by first | (rw [add_block]; exact hn130_2) | (show (Addr.add _ _).block ≠ _; rw [add_block]; exact hn130_2) | exact hn130_2) (.int .i64 ((rd_T115 l0_0 x10_1).f2))).trans hx130_0; replace hx130_0 := (cell_far (p := ⟨gb106, 3, none⟩) (by first | (rw [add_block]; exact hn130_3) | (show (Addr.add _ _).block ≠ _; rw [add_block]; exact hn130_3) | exact hn130_3) (.int .i64 ((rd_T115 l0_0 x10_1).f3))).trans hx130_0; (try have hy130_0 := fun (n_ : Nat) => (show ((((((w68.drewN n_).setCell ⟨gb106, 0, none⟩ (.int .i64 ((rd_T115 l0_0 x10_1).f0))).setCell ⟨gb106, 1, none⟩ (.int .i64 ((rd_T115 l0_0 x10_1).f1))).setCell ⟨gb106, 2, none⟩ (.int .i64 ((rd_T115 l0_0 x10_1).f2))).setCell ⟨gb106, 3, none⟩ (.int .i64 ((rd_T115 l0_0 x10_1).f3)))).cell? _ = some _ from hx130_0)); clear hn130_0; clear hn130_1; clear hn130_2; clear hn130_3; replace p130 := eq_true p130; replace q130 := eq_true q130; have p131 : 0 ≤ (((rd_T115 l0_0 x10_1).f2) : Int) := of_decide_eq_true qz0_; have q131 : ((rd_T115 l0_0 x10_1).f2) < (x7_1.length : Int) := of_decide_eq_true qz0_; obtain ⟨ad131, e131, hx131_0⟩ := Kd.at_int (Kd.R_reads' HO_7.out).2.2 ((rd_T115 l0_0 x10_1).f2) p131 q131; obtain rfl : ad130 = ad131 := (by injection e131); have hn131_0 : ad130.block ≠ gb106 := Kd.own_blk (Kd.R_ne HO_7.out BK106.out (by decide)); have hn131_1 : ad130.block ≠ gb106 := Kd.own_blk (Kd.R_ne HO_7.out BK106.out (by decide)); have hn131_2 : ad130.block ≠ gb106 := Kd.own_blk (Kd.R_ne HO_7.out BK106.out (by decide)); have hn131_3 : ad130.block ≠ gb106 := Kd.own_blk (Kd.R_ne HO_7.out BK106.out (by decide)); replace hx131_0 := (cell_far (p := ⟨gb106, 0, none⟩) qz33_ (.int .i64 ((rd_T115 l0_0 x10_1).f0))).trans hx131_0; replace hx131_0 := (cell_far (p := ⟨gb106, 1, none⟩) qz34_ (.int .i64 ((rd_T115 l0_0 x10_1).f1))).trans hx131_0; replace hx131_0 := (cell_far (p := ⟨gb106, 2, none⟩) qz35_ (.int .i64 ((rd_T115 l0_0 x10_1).f2))).trans hx131_0; replace hx131_0 := (cell_far (p := ⟨gb106, 3, none⟩) qz36_ (.int .i64 ((rd_T115 l0_0 x10_1).f3))).trans hx131_0; (try have hy131_0 := fun (n_ : Nat) => (show ((((((w68.drewN n_).setCell ⟨gb106, 0, none⟩ (.int .i64 ((rd_T115 l0_0 x10_1).f0))).setCell ⟨gb106, 1, none⟩ (.int .i64 ((rd_T115 l0_0 x10_1).f1))).setCell ⟨gb106, 2, none⟩ (.int .i64 ((rd_T115 l0_0 x10_1).f2))).setCell ⟨gb106, 3, none⟩ (.int .i64 ((rd_T115 l0_0 x10_1).f3)))).cell? _ = some _ from hx131_0)); clear hn131_0; clear hn131_1; clear hn131_2; clear hn131_3; replace p131 := eq_true p131; replace q131 := eq_true q131) | (go_at_call 87; (with_reducible refine (spec_l01Mul.calls (rd x7_1 ((rd_T115 l0_0 x10_1).f1)) (rd x7_1 ((rd_T115 l0_0 x10_1).f2)) t132 _ A65.out).mono ?_); rintro e w' ⟨rfl, ⟨nd, rfl⟩⟩; (try first | exact ⟨rfl, _, qd1_⟩ | exact ⟨rfl, _, qd2_⟩)) | ((with_reducible refine gate_builtin (b := .append) (xs := #[.tmp 92, .tmp 94]) rfl ?_); at_builtin; refine Kd.R_append (Kd.int .i64) (w0 := w) w.heap.size rfl (.tmp 92) (.tmp 94) 33 3 (.int .i64 0) 8 rfl Try.underlying33 info3 rfl (by decide) (by omega) (.slice (some ad130) x7_1.length co71) x7_1 t132 [.int .i64 t132] (fun _ => True) (fun _ => False) rfl qz22_ ?aP (fun _ hk => hk.elim) ?aF ?aO ?aB ?aS ?aL ?_; (case aP => exact rfl); (case aB => exact qz23_); (case aF => exact (fun _ _ => trivial)); (case aO => exact (by (with_reducible repeat (first | apply Kd.R_alloc | apply Kd.R_drewN | apply Kd.R_drew)); exact Kd.R_mono (Kd.R_far (p := ⟨gb106, 3, none⟩) (Kd.R_far (p := ⟨gb106, 2, none⟩) (Kd.R_far (p := ⟨gb106, 1, none⟩) (Kd.R_far (p := ⟨gb106, 0, none⟩) (Kd.R_types HO_7.out BK106.out (by decide)) (fun _ hk => hk.2) (.int .i64 ((rd_T115 l0_0 x10_1).f0))) (fun _ hk => hk.2) (.int .i64 ((rd_T115 l0_0 x10_1).f1))) (fun _ hk => hk.2) (.int .i64 ((rd_T115 l0_0 x10_1).f2))) (fun _ hk => hk.2) (.int .i64 ((rd_T115 l0_0 x10_1).f3))) (fun _ hk => trivial))); (case aS => exact (below_size qz23_)); (case aL => have := LMc66.out; omega); intro v134 w72 ho hb hg hat; rw [← Ny133.out] at ho; have n0_ := am_ (blk_grown (g := gb101) (o := .cells #[.slice (some ad105) l0_0.length c0_0] 63 (0, 0)) qz24_ hg (Kd.R_ne HO_7.out BK101.out (by decide))); have n1_ := am_ (blk_grown (g := gb106) (o := .cells #[.int .i64 ((rd_T115 l0_0 x10_1).f0), .int .i64 ((rd_T115 l0_0 x10_1).f1), .int .i64 ((rd_T115 l0_0 x10_1).f2), .int .i64 ((rd_T115 l0_0 x10_1).f3)] 115 (0, 0)) qz25_ hg (Kd.R_ne HO_7.out BK106.out (by decide))); have n2_ := am_ (hb); have n3_ := am_ (ho); clear BK101; clear BK106; clear HB; clear HO_7; have BK101 := n0_; have BK106 := n1_; have HB := n2_; have HO135 := n3_; clear n0_ n1_ n2_ n3_; clear ho hb hg hat))
                repeat (go_quiet (first | ((with_reducible refine gate_dst (N := 11) rfl ?_); refine box_event ?hg (N := 11) ?hd (cs := #[.int .i64 0, .int .i64 0, .int .i64 0, .int .i64 0]) (t := 115) ?hr ?_; (case hd => rfl); (case hg => rfl); (case hr => first | (go_simp; done) | (go_simp; rfl)); intro gb106 hg w68 hbox hb; have n0_ := am_ (Kd.R_below qz16_ hb); have n1_ := am_ (blk_below (g := gb101) (o := .cells #[.slice (some ad105) l0_0.length c0_0] 63 (0, 0)) qz11_ hb); have n2_ := am_ (below_step qz10_ hb); have n3_ := am_ (hbox); have n4_ := am_ ((by rw [hg]; exact (below_size qz10_) : w.heap.size ≤ gb106)); have n5_ := am_ ((by rw [hg]; exact (below_size qz10_) : w.heap.size ≤ gb106)); have n6_ := am_ ((by rw [hg]; exact Nat.ne_of_lt (blk_lt (g := gb101) (o := .cells #[.slice (some ad105) l0_0.length c0_0] 63 (0, 0)) qz11_) : gb101 ≠ gb106)); have n7_ := am_ ((by rw [hg]; exact Nat.ne_of_gt (blk_lt (g := gb101) (o := .cells #[.slice (some ad105) l0_0.length c0_0] 63 (0, 0)) qz11_) : gb106 ≠ gb101)); clear HO_7; clear BK101; clear HB; have HO_7 := n0_; have BK101 := n1_; have HB := n2_; have BK106 := n3_; have GW106 := n4_; have GE106 := n5_; have NB101_106 := n6_; have NB106_101 := n7_; clear n0_ n1_ n2_ n3_ n4_ n5_ n6_ n7_; clear hb hbox hg; have hnb69 := NB106_101.out; have hnc69 := NB101_106.out; have hcz70_0 : w68.cell? ⟨gb106, 0, none⟩ = some (.int .i64 0) := (blk_cell BK106.out 0).trans rfl; have hcz70_1 : w68.cell? ⟨gb106, 1, none⟩ = some (.int .i64 0) := (blk_cell BK106.out 1).trans rfl; have hcz70_2 : w68.cell? ⟨gb106, 2, none⟩ = some (.int .i64 0) := (blk_cell BK106.out 2).trans rfl; have hcz70_3 : w68.cell? ⟨gb106, 3, none⟩ = some (.int .i64 0) := (blk_cell BK106.out 3).trans rfl; have hfz70_0 := blk_frozen BK106.out 0; have hfz70_1 := blk_frozen BK106.out 1; have hfz70_2 := blk_frozen BK106.out 2; have hfz70_3 := blk_frozen BK106.out 3; obtain ⟨Ao71, co71, eo71⟩ := Kd.R_slice HO_7.out; subst eo71; have p130 : 0 ≤ (((rd_T115 l0_0 x10_1).f1) : Int) := of_decide_eq_true qz0_; have q130 : ((rd_T115 l0_0 x10_1).f1) < (x7_1.length : Int) := of_decide_eq_true qz0_; obtain ⟨ad130, e130, hx130_0⟩ := Kd.at_int (Kd.R_reads' HO_7.out).2.2 ((rd_T115 l0_0 x10_1).f1) p130 q130; cases e130; have hn130_0 : ad130.block ≠ gb106 := Kd.own_blk (Kd.R_ne HO_7.out BK106.out (by decide)); have hn130_1 : ad130.block ≠ gb106 := Kd.own_blk (Kd.R_ne HO_7.out BK106.out (by decide)); have hn130_2 : ad130.block ≠ gb106 := Kd.own_blk (Kd.R_ne HO_7.out BK106.out (by decide)); have hn130_3 : ad130.block ≠ gb106 := Kd.own_blk (Kd.R_ne HO_7.out BK106.out (by decide)); replace hx130_0 := (cell_far (p := ⟨gb106, 0, none⟩) (by first | (rw [add_block]; exact hn130_0) | (show (Addr.add _ _).block ≠ _; rw [add_block]; exact hn130_0) | exact hn130_0) (.int .i64 ((rd_T115 l0_0 x10_1).f0))).trans hx130_0; replace hx130_0 := (cell_far (p := ⟨gb106, 1, none⟩) (by first | (rw [add_block]; exact hn130_1) | (show (Addr.add _ _).block ≠ _; rw [add_block]; exact hn130_1) | exact hn130_1) (.int .i64 ((rd_T115 l0_0 x10_1).f1))).trans hx130_0; replace hx130_0 := (cell_far (p := ⟨gb106, 2, none⟩) (by first | (rw [add_block]; exact hn130_2) | (show (Addr.add _ _).block ≠ _; rw [add_block]; exact hn130_2) | exact hn130_2) (.int .i64 ((rd_T115 l0_0 x10_1).f2))).trans hx130_0; replace hx130_0 := (cell_far (p := ⟨gb106, 3, none⟩) (by first | (rw [add_block]; exact hn130_3) | (show (Addr.add _ _).block ≠ _; rw [add_block]; exact hn130_3) | exact hn130_3) (.int .i64 ((rd_T115 l0_0 x10_1).f3))).trans hx130_0; (try have hy130_0 := fun (n_ : Nat) => (show ((((((w68.drewN n_).setCell ⟨gb106, 0, none⟩ (.int .i64 ((rd_T115 l0_0 x10_1).f0))).setCell ⟨gb106, 1, none⟩ (.int .i64 ((rd_T115 l0_0 x10_1).f1))).setCell ⟨gb106, 2, none⟩ (.int .i64 ((rd_T115 l0_0 x10_1).f2))).setCell ⟨gb106, 3, none⟩ (.int .i64 ((rd_T115 l0_0 x10_1).f3)))).cell? _ = some _ from hx130_0)); clear hn130_0; clear hn130_1; clear hn130_2; clear hn130_3; replace p130 := eq_true p130; replace q130 := eq_true q130; have p131 : 0 ≤ (((rd_T115 l0_0 x10_1).f2) : Int) := of_decide_eq_true qz0_; have q131 : ((rd_T115 l0_0 x10_1).f2) < (x7_1.length : Int) := of_decide_eq_true qz0_; obtain ⟨ad131, e131, hx131_0⟩ := Kd.at_int (Kd.R_reads' HO_7.out).2.2 ((rd_T115 l0_0 x10_1).f2) p131 q131; obtain rfl : ad130 = ad131 := (by injection e131); have hn131_0 : ad130.block ≠ gb106 := Kd.own_blk (Kd.R_ne HO_7.out BK106.out (by decide)); have hn131_1 : ad130.block ≠ gb106 := Kd.own_blk (Kd.R_ne HO_7.out BK106.out (by decide)); have hn131_2 : ad130.block ≠ gb106 := Kd.own_blk (Kd.R_ne HO_7.out BK106.out (by decide)); have hn131_3 : ad130.block ≠ gb106 := Kd.own_blk (Kd.R_ne HO_7.out BK106.out (by decide)); replace hx131_0 := (cell_far (p := ⟨gb106, 0, none⟩) qz33_ (.int .i64 ((rd_T115 l0_0 x10_1).f0))).trans hx131_0; replace hx131_0 := (cell_far (p := ⟨gb106, 1, none⟩) qz34_ (.int .i64 ((rd_T115 l0_0 x10_1).f1))).trans hx131_0; replace hx131_0 := (cell_far (p := ⟨gb106, 2, none⟩) qz35_ (.int .i64 ((rd_T115 l0_0 x10_1).f2))).trans hx131_0; replace hx131_0 := (cell_far (p := ⟨gb106, 3, none⟩) qz36_ (.int .i64 ((rd_T115 l0_0 x10_1).f3))).trans hx131_0; (try have hy131_0 := fun (n_ : Nat) => (show ((((((w68.drewN n_).setCell ⟨gb106, 0, none⟩ (.int .i64 ((rd_T115 l0_0 x10_1).f0))).setCell ⟨gb106, 1, none⟩ (.int .i64 ((rd_T115 l0_0 x10_1).f1))).setCell ⟨gb106, 2, none⟩ (.int .i64 ((rd_T115 l0_0 x10_1).f2))).setCell ⟨gb106, 3, none⟩ (.int .i64 ((rd_T115 l0_0 x10_1).f3)))).cell? _ = some _ from hx131_0)); clear hn131_0; clear hn131_1; clear hn131_2; clear hn131_3; replace p131 := eq_true p131; replace q131 := eq_true q131) | (go_at_call 87; (with_reducible refine (spec_l01Mul.calls (rd x7_1 ((rd_T115 l0_0 x10_1).f1)) (rd x7_1 ((rd_T115 l0_0 x10_1).f2)) t132 _ A65.out).mono ?_); rintro e w' ⟨rfl, ⟨nd, rfl⟩⟩; (try first | exact ⟨rfl, _, qd1_⟩ | exact ⟨rfl, _, qd2_⟩)) | ((with_reducible refine gate_builtin (b := .append) (xs := #[.tmp 92, .tmp 94]) rfl ?_); at_builtin; refine Kd.R_append (Kd.int .i64) (w0 := w) w.heap.size rfl (.tmp 92) (.tmp 94) 33 3 (.int .i64 0) 8 rfl Try.underlying33 info3 rfl (by decide) (by omega) (.slice (some ad130) x7_1.length co71) x7_1 t132 [.int .i64 t132] (fun _ => True) (fun _ => False) rfl qz22_ ?aP (fun _ hk => hk.elim) ?aF ?aO ?aB ?aS ?aL ?_; (case aP => exact rfl); (case aB => exact qz23_); (case aF => exact (fun _ _ => trivial)); (case aO => exact (by (with_reducible repeat (first | apply Kd.R_alloc | apply Kd.R_drewN | apply Kd.R_drew)); exact Kd.R_mono (Kd.R_far (p := ⟨gb106, 3, none⟩) (Kd.R_far (p := ⟨gb106, 2, none⟩) (Kd.R_far (p := ⟨gb106, 1, none⟩) (Kd.R_far (p := ⟨gb106, 0, none⟩) (Kd.R_types HO_7.out BK106.out (by decide)) (fun _ hk => hk.2) (.int .i64 ((rd_T115 l0_0 x10_1).f0))) (fun _ hk => hk.2) (.int .i64 ((rd_T115 l0_0 x10_1).f1))) (fun _ hk => hk.2) (.int .i64 ((rd_T115 l0_0 x10_1).f2))) (fun _ hk => hk.2) (.int .i64 ((rd_T115 l0_0 x10_1).f3))) (fun _ hk => trivial))); (case aS => exact (below_size qz23_)); (case aL => have := LMc66.out; omega); intro v134 w72 ho hb hg hat; rw [← Ny133.out] at ho; have n0_ := am_ (blk_grown (g := gb101) (o := .cells #[.slice (some ad105) l0_0.length c0_0] 63 (0, 0)) qz24_ hg (Kd.R_ne HO_7.out BK101.out (by decide))); have n1_ := am_ (blk_grown (g := gb106) (o := .cells #[.int .i64 ((rd_T115 l0_0 x10_1).f0), .int .i64 ((rd_T115 l0_0 x10_1).f1), .int .i64 ((rd_T115 l0_0 x10_1).f2), .int .i64 ((rd_T115 l0_0 x10_1).f3)] 115 (0, 0)) qz25_ hg (Kd.R_ne HO_7.out BK106.out (by decide))); have n2_ := am_ (hb); have n3_ := am_ (ho); clear BK101; clear BK106; clear HB; clear HO_7; have BK101 := n0_; have BK106 := n1_; have HB := n2_; have HO135 := n3_; clear n0_ n1_ n2_ n3_; clear ho hb hg hat)); try go_wp2_with (first | ((with_reducible refine gate_dst (N := 11) rfl ?_); refine box_event ?hg (N := 11) ?hd (cs := #[.int .i64 0, .int .i64 0, .int .i64 0, .int .i64 0]) (t := 115) ?hr ?_; (case hd => rfl); (case hg => rfl); (case hr => first | (go_simp; done) | (go_simp; rfl)); intro gb106 hg w68 hbox hb; have n0_ := am_ (Kd.R_below qz16_ hb); have n1_ := am_ (blk_below (g := gb101) (o := .cells #[.slice (some ad105) l0_0.length c0_0] 63 (0, 0)) qz11_ hb); have n2_ := am_ (below_step qz10_ hb); have n3_ := am_ (hbox); have n4_ := am_ ((by rw [hg]; exact (below_size qz10_) : w.heap.size ≤ gb106)); have n5_ := am_ ((by rw [hg]; exact (below_size qz10_) : w.heap.size ≤ gb106)); have n6_ := am_ ((by rw [hg]; exact Nat.ne_of_lt (blk_lt (g := gb101) (o := .cells #[.slice (some ad105) l0_0.length c0_0] 63 (0, 0)) qz11_) : gb101 ≠ gb106)); have n7_ := am_ ((by rw [hg]; exact Nat.ne_of_gt (blk_lt (g := gb101) (o := .cells #[.slice (some ad105) l0_0.length c0_0] 63 (0, 0)) qz11_) : gb106 ≠ gb101)); clear HO_7; clear BK101; clear HB; have HO_7 := n0_; have BK101 := n1_; have HB := n2_; have BK106 := n3_; have GW106 := n4_; have GE106 := n5_; have NB101_106 := n6_; have NB106_101 := n7_; clear n0_ n1_ n2_ n3_ n4_ n5_ n6_ n7_; clear hb hbox hg; have hnb69 := NB106_101.out; have hnc69 := NB101_106.out; have hcz70_0 : w68.cell? ⟨gb106, 0, none⟩ = some (.int .i64 0) := (blk_cell BK106.out 0).trans rfl; have hcz70_1 : w68.cell? ⟨gb106, 1, none⟩ = some (.int .i64 0) := (blk_cell BK106.out 1).trans rfl; have hcz70_2 : w68.cell? ⟨gb106, 2, none⟩ = some (.int .i64 0) := (blk_cell BK106.out 2).trans rfl; have hcz70_3 : w68.cell? ⟨gb106, 3, none⟩ = some (.int .i64 0) := (blk_cell BK106.out 3).trans rfl; have hfz70_0 := blk_frozen BK106.out 0; have hfz70_1 := blk_frozen BK106.out 1; have hfz70_2 := blk_frozen BK106.out 2; have hfz70_3 := blk_frozen BK106.out 3; obtain ⟨Ao71, co71, eo71⟩ := Kd.R_slice HO_7.out; subst eo71; have p130 : 0 ≤ (((rd_T115 l0_0 x10_1).f1) : Int) := of_decide_eq_true qz0_; have q130 : ((rd_T115 l0_0 x10_1).f1) < (x7_1.length : Int) := of_decide_eq_true qz0_; obtain ⟨ad130, e130, hx130_0⟩ := Kd.at_int (Kd.R_reads' HO_7.out).2.2 ((rd_T115 l0_0 x10_1).f1) p130 q130; cases e130; have hn130_0 : ad130.block ≠ gb106 := Kd.own_blk (Kd.R_ne HO_7.out BK106.out (by decide)); have hn130_1 : ad130.block ≠ gb106 := Kd.own_blk (Kd.R_ne HO_7.out BK106.out (by decide)); have hn130_2 : ad130.block ≠ gb106 := Kd.own_blk (Kd.R_ne HO_7.out BK106.out (by decide)); have hn130_3 : ad130.block ≠ gb106 := Kd.own_blk (Kd.R_ne HO_7.out BK106.out (by decide)); replace hx130_0 := (cell_far (p := ⟨gb106, 0, none⟩) (by first | (rw [add_block]; exact hn130_0) | (show (Addr.add _ _).block ≠ _; rw [add_block]; exact hn130_0) | exact hn130_0) (.int .i64 ((rd_T115 l0_0 x10_1).f0))).trans hx130_0; replace hx130_0 := (cell_far (p := ⟨gb106, 1, none⟩) (by first | (rw [add_block]; exact hn130_1) | (show (Addr.add _ _).block ≠ _; rw [add_block]; exact hn130_1) | exact hn130_1) (.int .i64 ((rd_T115 l0_0 x10_1).f1))).trans hx130_0; replace hx130_0 := (cell_far (p := ⟨gb106, 2, none⟩) (by first | (rw [add_block]; exact hn130_2) | (show (Addr.add _ _).block ≠ _; rw [add_block]; exact hn130_2) | exact hn130_2) (.int .i64 ((rd_T115 l0_0 x10_1).f2))).trans hx130_0; replace hx130_0 := (cell_far (p := ⟨gb106, 3, none⟩) (by first | (rw [add_block]; exact hn130_3) | (show (Addr.add _ _).block ≠ _; rw [add_block]; exact hn130_3) | exact hn130_3) (.int .i64 ((rd_T115 l0_0 x10_1).f3))).trans hx130_0; (try have hy130_0 := fun (n_ : Nat) => (show ((((((w68.drewN n_).setCell ⟨gb106, 0, none⟩ (.int .i64 ((rd_T115 l0_0 x10_1).f0))).setCell ⟨gb106, 1, none⟩ (.int .i64 ((rd_T115 l0_0 x10_1).f1))).setCell ⟨gb106, 2, none⟩ (.int .i64 ((rd_T115 l0_0 x10_1).f2))).setCell ⟨gb106, 3, none⟩ (.int .i64 ((rd_T115 l0_0 x10_1).f3)))).cell? _ = some _ from hx130_0)); clear hn130_0; clear hn130_1; clear hn130_2; clear hn130_3; replace p130 := eq_true p130; replace q130 := eq_true q130; have p131 : 0 ≤ (((rd_T115 l0_0 x10_1).f2) : Int) := of_decide_eq_true qz0_; have q131 : ((rd_T115 l0_0 x10_1).f2) < (x7_1.length : Int) := of_decide_eq_true qz0_; obtain ⟨ad131, e131, hx131_0⟩ := Kd.at_int (Kd.R_reads' HO_7.out).2.2 ((rd_T115 l0_0 x10_1).f2) p131 q131; obtain rfl : ad130 = ad131 := (by injection e131); have hn131_0 : ad130.block ≠ gb106 := Kd.own_blk (Kd.R_ne HO_7.out BK106.out (by decide)); have hn131_1 : ad130.block ≠ gb106 := Kd.own_blk (Kd.R_ne HO_7.out BK106.out (by decide)); have hn131_2 : ad130.block ≠ gb106 := Kd.own_blk (Kd.R_ne HO_7.out BK106.out (by decide)); have hn131_3 : ad130.block ≠ gb106 := Kd.own_blk (Kd.R_ne HO_7.out BK106.out (by decide)); replace hx131_0 := (cell_far (p := ⟨gb106, 0, none⟩) qz33_ (.int .i64 ((rd_T115 l0_0 x10_1).f0))).trans hx131_0; replace hx131_0 := (cell_far (p := ⟨gb106, 1, none⟩) qz34_ (.int .i64 ((rd_T115 l0_0 x10_1).f1))).trans hx131_0; replace hx131_0 := (cell_far (p := ⟨gb106, 2, none⟩) qz35_ (.int .i64 ((rd_T115 l0_0 x10_1).f2))).trans hx131_0; replace hx131_0 := (cell_far (p := ⟨gb106, 3, none⟩) qz36_ (.int .i64 ((rd_T115 l0_0 x10_1).f3))).trans hx131_0; (try have hy131_0 := fun (n_ : Nat) => (show ((((((w68.drewN n_).setCell ⟨gb106, 0, none⟩ (.int .i64 ((rd_T115 l0_0 x10_1).f0))).setCell ⟨gb106, 1, none⟩ (.int .i64 ((rd_T115 l0_0 x10_1).f1))).setCell ⟨gb106, 2, none⟩ (.int .i64 ((rd_T115 l0_0 x10_1).f2))).setCell ⟨gb106, 3, none⟩ (.int .i64 ((rd_T115 l0_0 x10_1).f3)))).cell? _ = some _ from hx131_0)); clear hn131_0; clear hn131_1; clear hn131_2; clear hn131_3; replace p131 := eq_true p131; replace q131 := eq_true q131) | (go_at_call 87; (with_reducible refine (spec_l01Mul.calls (rd x7_1 ((rd_T115 l0_0 x10_1).f1)) (rd x7_1 ((rd_T115 l0_0 x10_1).f2)) t132 _ A65.out).mono ?_); rintro e w' ⟨rfl, ⟨nd, rfl⟩⟩; (try first | exact ⟨rfl, _, qd1_⟩ | exact ⟨rfl, _, qd2_⟩)) | ((with_reducible refine gate_builtin (b := .append) (xs := #[.tmp 92, .tmp 94]) rfl ?_); at_builtin; refine Kd.R_append (Kd.int .i64) (w0 := w) w.heap.size rfl (.tmp 92) (.tmp 94) 33 3 (.int .i64 0) 8 rfl Try.underlying33 info3 rfl (by decide) (by omega) (.slice (some ad130) x7_1.length co71) x7_1 t132 [.int .i64 t132] (fun _ => True) (fun _ => False) rfl qz22_ ?aP (fun _ hk => hk.elim) ?aF ?aO ?aB ?aS ?aL ?_; (case aP => exact rfl); (case aB => exact qz23_); (case aF => exact (fun _ _ => trivial)); (case aO => exact (by (with_reducible repeat (first | apply Kd.R_alloc | apply Kd.R_drewN | apply Kd.R_drew)); exact Kd.R_mono (Kd.R_far (p := ⟨gb106, 3, none⟩) (Kd.R_far (p := ⟨gb106, 2, none⟩) (Kd.R_far (p := ⟨gb106, 1, none⟩) (Kd.R_far (p := ⟨gb106, 0, none⟩) (Kd.R_types HO_7.out BK106.out (by decide)) (fun _ hk => hk.2) (.int .i64 ((rd_T115 l0_0 x10_1).f0))) (fun _ hk => hk.2) (.int .i64 ((rd_T115 l0_0 x10_1).f1))) (fun _ hk => hk.2) (.int .i64 ((rd_T115 l0_0 x10_1).f2))) (fun _ hk => hk.2) (.int .i64 ((rd_T115 l0_0 x10_1).f3))) (fun _ hk => trivial))); (case aS => exact (below_size qz23_)); (case aL => have := LMc66.out; omega); intro v134 w72 ho hb hg hat; rw [← Ny133.out] at ho; have n0_ := am_ (blk_grown (g := gb101) (o := .cells #[.slice (some ad105) l0_0.length c0_0] 63 (0, 0)) qz24_ hg (Kd.R_ne HO_7.out BK101.out (by decide))); have n1_ := am_ (blk_grown (g := gb106) (o := .cells #[.int .i64 ((rd_T115 l0_0 x10_1).f0), .int .i64 ((rd_T115 l0_0 x10_1).f1), .int .i64 ((rd_T115 l0_0 x10_1).f2), .int .i64 ((rd_T115 l0_0 x10_1).f3)] 115 (0, 0)) qz25_ hg (Kd.R_ne HO_7.out BK106.out (by decide))); have n2_ := am_ (hb); have n3_ := am_ (ho); clear BK101; clear BK106; clear HB; clear HO_7; have BK101 := n0_; have BK106 := n1_; have HB := n2_; have HO135 := n3_; clear n0_ n1_ n2_ n3_; clear ho hb hg hat)))
                go_roundg k1
                case measure => have := HK1.out; omega
                case rel => exact ⟨(y133), (x8_1), (x9_1), (wrap64 (x10_1 + 1)), qz2_, qz2_, qz2_, H', ⟨qz3_⟩, ⟨(by (with_reducible repeat (first | apply Kd.R_alloc | apply Kd.R_drewN | apply Kd.R_drew)); exact HO135.out)⟩, ⟨qz11_⟩, ⟨qz23_⟩⟩
               ·
                rw [if_neg c66] at H
                exact absurd H (by simp)
              ·
               rw [if_neg c64] at H
               exact absurd H (by simp)
             ·
              rw [if_neg c63] at H
              exact absurd H (by simp)
            ·
             rw [if_neg c62] at H
             exact absurd H (by simp)
           ·
            rw [if_neg c61] at H
            exact absurd H (by simp)
          ·
           rw [if_neg c60] at H
           have c60b0 : (((rd_T115 l0_0 x10_1).f0) == 6) = false := beq_eq_false_iff_ne.mpr c60
           have c60b1 : (((rd_T115 l0_0 x10_1).f0) != 6) = true := bne_iff_ne.mpr c60
           by_cases c73 : 0 ≤ ((rd_T115 l0_0 x10_1).f1)
           ·
            rw [if_pos c73] at H
            have c73b0 : decide (0 ≤ ((rd_T115 l0_0 x10_1).f1)) = true := decide_eq_true c73
            clear c73
            by_cases c74 : ((rd_T115 l0_0 x10_1).f1) < (x7_1.length : Int)
            ·
             rw [if_pos c74] at H
             have c74b0 : decide (((rd_T115 l0_0 x10_1).f1) < (x7_1.length : Int)) = true := decide_eq_true c74
             clear c74
             by_cases c75 : x7_1.length < 17592186044416
             ·
              rw [if_pos c75] at H
              have LMc75 := am_ c75
              clear c75
              obtain ⟨y137, hy137⟩ : ∃ y_ : List Int, y_ = (x7_1 ++ [rd x7_1 ((rd_T115 l0_0 x10_1).f1)]) := ⟨_, rfl⟩
              replace H : (spec_l11Run.l0 k1 l1 l2 y137 x8_1 x9_1 (wrap64 (x10_1 + 1)) l0_0) = some r := by first | (rw [hy137]; with_reducible exact H) | (have H2_ := (Option.bind_some _ _).symm.trans H; rw [hy137]; with_reducible exact H2_) | (have H2_ := (Option.bind_some _ _).symm.trans H; with_reducible exact H2_) | with_reducible exact H | (rw [hy137]; exact H) | exact H
              have Ny137 := am_ hy137
              clear hy137
              have H' := am_ H
              clear H
              have hcz76_0 : wr.cell? ⟨gb101, 0, none⟩ = some (.slice A0_0 l0_0.length c0_0) := (blk_cell BK101.out 0).trans rfl
              have hfz76_0 := blk_frozen BK101.out 0
              have p105 : 0 ≤ (x10_1 : Int) := of_decide_eq_true qz0_
              have q105 : x10_1 < (l0_0.length : Int) := of_decide_eq_true qz0_
              obtain ⟨ad105, e105, hx105_0, hx105_1, hx105_2, hx105_3⟩ := at_T115 HR0_0.out x10_1 p105 q105
              cases e105
              replace hx105_0 := (HB.out.cell (World.block_lt_of_cell? w _ hx105_0)).trans hx105_0
              replace hx105_1 := (HB.out.cell (World.block_lt_of_cell? w _ hx105_1)).trans hx105_1
              replace hx105_2 := (HB.out.cell (World.block_lt_of_cell? w _ hx105_2)).trans hx105_2
              replace hx105_3 := (HB.out.cell (World.block_lt_of_cell? w _ hx105_3)).trans hx105_3
              replace p105 := eq_true p105
              replace q105 := eq_true q105
              go_wp2_with (first | ((with_reducible refine gate_dst (N := 11) rfl ?_); refine box_event ?hg (N := 11) ?hd (cs := #[.int .i64 0, .int .i64 0, .int .i64 0, .int .i64 0]) (t := 115) ?hr ?_; (case hd => rfl); (case hg => rfl); (case hr => first | (go_simp; done) | (go_simp; rfl)); intro gb106 hg w77 hbox hb; have n0_ := am_ (Kd.R_below qz16_ hb); have n1_ := am_ (blk_below (g := gb101) (o := .cells #[.slice (some ad105) l0_0.length c0_0] 63 (0, 0)) qz11_ hb); have n2_ := am_ (below_step qz10_ hb); have n3_ := am_ (hbox); have n4_ := am_ ((by rw [hg]; exact (below_size qz10_) : w.heap.size ≤ gb106)); have n5_ := am_ ((by rw [hg]; exact (below_size qz10_) : w.heap.size ≤ gb106)); have n6_ := am_ ((by rw [hg]; exact Nat.ne_of_lt (blk_lt (g := gb101) (o := .cells #[.slice (some ad105) l0_0.length c0_0] 63 (0, 0)) qz11_) : gb101 ≠ gb106)); have n7_ := am_ ((by rw [hg]; exact Nat.ne_of_gt (blk_lt (g := gb101) (o := .cells #[.slice (some ad105) l0_0.length c0_0] 63 (0, 0)) qz11_) : gb106 ≠ gb101)); clear HO_7; clear BK101; clear HB; have HO_7 := n0_; have BK101 := n1_; have HB := n2_; have BK106 := n3_; have GW106 := n4_; have GE106 := n5_; have NB101_106 := n6_; have NB106_101 := n7_; clear n0_ n1_ n2_ n3_ n4_ n5_ n6_ n7_; clear hb hbox hg; have hnb78 := NB106_101.out; have hnc78 := NB101_106.out; have hcz79_0 : w77.cell? ⟨gb106, 0, none⟩ = some (.int .i64 0) := (blk_cell BK106.out 0).trans rfl; have hcz79_1 : w77.cell? ⟨gb106, 1, none⟩ = some (.int .i64 0) := (blk_cell BK106.out 1).trans rfl; have hcz79_2 : w77.cell? ⟨gb106, 2, none⟩ = some (.int .i64 0) := (blk_cell BK106.out 2).trans rfl; have hcz79_3 : w77.cell? ⟨gb106, 3, none⟩ = some (.int .i64 0) := (blk_cell BK106.out 3).trans rfl; have hfz79_0 := blk_frozen BK106.out 0; have hfz79_1 := blk_frozen BK106.out 1; have hfz79_2 := blk_frozen BK106.out 2; have hfz79_3 := blk_frozen BK106.out 3; obtain ⟨Ao80, co80, eo80⟩ := Kd.R_slice HO_7.out; subst eo80; have p136 : 0 ≤ (((rd_T115 l0_0 x10_1).f1) : Int) := of_decide_eq_true qz0_; have q136 : ((rd_T115 l0_0 x10_1).f1) < (x7_1.length : Int) := of_decide_eq_true qz0_; obtain ⟨ad136, e136, hx136_0⟩ := Kd.at_int (Kd.R_reads' HO_7.out).2.2 ((rd_T115 l0_0 x10_1).f1) p136 q136; cases e136; have hn136_0 : ad136.block ≠ gb106 := Kd.own_blk (Kd.R_ne HO_7.out BK106.out (by decide)); have hn136_1 : ad136.block ≠ gb106 := Kd.own_blk (Kd.R_ne HO_7.out BK106.out (by decide)); have hn136_2 : ad136.block ≠ gb106 := Kd.own_blk (Kd.R_ne HO_7.out BK106.out (by decide)); have hn136_3 : ad136.block ≠ gb106 := Kd.own_blk (Kd.R_ne HO_7.out BK106.out (by decide)); replace hx136_0 := (cell_far (p := ⟨gb106, 0, none⟩) (by first | (rw [add_block]; exact hn136_0) | (show (Addr.add _ _).block ≠ _; rw [add_block]; exact hn136_0) | exact hn136_0) (.int .i64 ((rd_T115 l0_0 x10_1).f0))).trans hx136_0; replace hx136_0 := (cell_far (p := ⟨gb106, 1, none⟩) (by first | (rw [add_block]; exact hn136_1) | (show (Addr.add _ _).block ≠ _; rw [add_block]; exact hn136_1) | exact hn136_1) (.int .i64 ((rd_T115 l0_0 x10_1).f1))).trans hx136_0; replace hx136_0 := (cell_far (p := ⟨gb106, 2, none⟩) (by first | (rw [add_block]; exact hn136_2) | (show (Addr.add _ _).block ≠ _; rw [add_block]; exact hn136_2) | exact hn136_2) (.int .i64 ((rd_T115 l0_0 x10_1).f2))).trans hx136_0; replace hx136_0 := (cell_far (p := ⟨gb106, 3, none⟩) (by first | (rw [add_block]; exact hn136_3) | (show (Addr.add _ _).block ≠ _; rw [add_block]; exact hn136_3) | exact hn136_3) (.int .i64 ((rd_T115 l0_0 x10_1).f3))).trans hx136_0; (try have hy136_0 := fun (n_ : Nat) => (show ((((((w77.drewN n_).setCell ⟨gb106, 0, none⟩ (.int .i64 ((rd_T115 l0_0 x10_1).f0))).setCell ⟨gb106, 1, none⟩ (.int .i64 ((rd_T115 l0_0 x10_1).f1))).setCell ⟨gb106, 2, none⟩ (.int .i64 ((rd_T115 l0_0 x10_1).f2))).setCell ⟨gb106, 3, none⟩ (.int .i64 ((rd_T115 l0_0 x10_1).f3)))).cell? _ = some _ from hx136_0)); clear hn136_0; clear hn136_1; clear hn136_2; clear hn136_3; replace p136 := eq_true p136; replace q136 := eq_true q136) | ((with_reducible refine gate_builtin (b := .append) (xs := #[.tmp 92, .tmp 94]) rfl ?_); at_builtin; refine Kd.R_append (Kd.int .i64) (w0 := w) w.heap.size rfl (.tmp 92) (.tmp 94) 33 3 (.int .i64 0) 8 rfl Try.underlying33 info3 rfl (by decide) (by omega) (.slice (some ad136) x7_1.length co80) x7_1 (rd x7_1 ((rd_T115 l0_0 x10_1).f1)) [.int .i64 (rd x7_1 ((rd_T115 l0_0 x10_1).f1))] (fun _ => True) (fun _ => False) rfl qz22_ ?aP (fun _ hk => hk.elim) ?aF ?aO ?aB ?aS ?aL ?_; (case aP => exact rfl); (case aB => exact qz23_); (case aF => exact (fun _ _ => trivial)); (case aO => exact (by (with_reducible repeat (first | apply Kd.R_alloc | apply Kd.R_drewN | apply Kd.R_drew)); exact Kd.R_mono (Kd.R_far (p := ⟨gb106, 3, none⟩) (Kd.R_far (p := ⟨gb106, 2, none⟩) (Kd.R_far (p := ⟨gb106, 1, none⟩) (Kd.R_far (p := ⟨gb106, 0, none⟩) (Kd.R_types HO_7.out BK106.out (by decide)) (fun _ hk => hk.2) (.int .i64 ((rd_T115 l0_0 x10_1).f0))) (fun _ hk => hk.2) (.int .i64 ((rd_T115 l0_0 x10_1).f1))) (fun _ hk => hk.2) (.int .i64 ((rd_T115 l0_0 x10_1).f2))) (fun _ hk => hk.2) (.int .i64 ((rd_T115 l0_0 x10_1).f3))) (fun _ hk => trivial))); (case aS => exact (below_size qz23_)); (case aL => have := LMc75.out; omega); intro v138 w81 ho hb hg hat; rw [← Ny137.out] at ho; have n0_ := am_ (blk_grown (g := gb101) (o := .cells #[.slice (some ad105) l0_0.length c0_0] 63 (0, 0)) qz24_ hg (Kd.R_ne HO_7.out BK101.out (by decide))); have n1_ := am_ (blk_grown (g := gb106) (o := .cells #[.int .i64 ((rd_T115 l0_0 x10_1).f0), .int .i64 ((rd_T115 l0_0 x10_1).f1), .int .i64 ((rd_T115 l0_0 x10_1).f2), .int .i64 ((rd_T115 l0_0 x10_1).f3)] 115 (0, 0)) qz25_ hg (Kd.R_ne HO_7.out BK106.out (by decide))); have n2_ := am_ (hb); have n3_ := am_ (ho); clear BK101; clear BK106; clear HB; clear HO_7; have BK101 := n0_; have BK106 := n1_; have HB := n2_; have HO139 := n3_; clear n0_ n1_ n2_ n3_; clear ho hb hg hat))
              repeat (go_quiet (first | ((with_reducible refine gate_dst (N := 11) rfl ?_); refine box_event ?hg (N := 11) ?hd (cs := #[.int .i64 0, .int .i64 0, .int .i64 0, .int .i64 0]) (t := 115) ?hr ?_; (case hd => rfl); (case hg => rfl); (case hr => first | (go_simp; done) | (go_simp; rfl)); intro gb106 hg w77 hbox hb; have n0_ := am_ (Kd.R_below qz16_ hb); have n1_ := am_ (blk_below (g := gb101) (o := .cells #[.slice (some ad105) l0_0.length c0_0] 63 (0, 0)) qz11_ hb); have n2_ := am_ (below_step qz10_ hb); have n3_ := am_ (hbox); have n4_ := am_ ((by rw [hg]; exact (below_size qz10_) : w.heap.size ≤ gb106)); have n5_ := am_ ((by rw [hg]; exact (below_size qz10_) : w.heap.size ≤ gb106)); have n6_ := am_ ((by rw [hg]; exact Nat.ne_of_lt (blk_lt (g := gb101) (o := .cells #[.slice (some ad105) l0_0.length c0_0] 63 (0, 0)) qz11_) : gb101 ≠ gb106)); have n7_ := am_ ((by rw [hg]; exact Nat.ne_of_gt (blk_lt (g := gb101) (o := .cells #[.slice (some ad105) l0_0.length c0_0] 63 (0, 0)) qz11_) : gb106 ≠ gb101)); clear HO_7; clear BK101; clear HB; have HO_7 := n0_; have BK101 := n1_; have HB := n2_; have BK106 := n3_; have GW106 := n4_; have GE106 := n5_; have NB101_106 := n6_; have NB106_101 := n7_; clear n0_ n1_ n2_ n3_ n4_ n5_ n6_ n7_; clear hb hbox hg; have hnb78 := NB106_101.out; have hnc78 := NB101_106.out; have hcz79_0 : w77.cell? ⟨gb106, 0, none⟩ = some (.int .i64 0) := (blk_cell BK106.out 0).trans rfl; have hcz79_1 : w77.cell? ⟨gb106, 1, none⟩ = some (.int .i64 0) := (blk_cell BK106.out 1).trans rfl; have hcz79_2 : w77.cell? ⟨gb106, 2, none⟩ = some (.int .i64 0) := (blk_cell BK106.out 2).trans rfl; have hcz79_3 : w77.cell? ⟨gb106, 3, none⟩ = some (.int .i64 0) := (blk_cell BK106.out 3).trans rfl; have hfz79_0 := blk_frozen BK106.out 0; have hfz79_1 := blk_frozen BK106.out 1; have hfz79_2 := blk_frozen BK106.out 2; have hfz79_3 := blk_frozen BK106.out 3; obtain ⟨Ao80, co80, eo80⟩ := Kd.R_slice HO_7.out; subst eo80; have p136 : 0 ≤ (((rd_T115 l0_0 x10_1).f1) : Int) := of_decide_eq_true qz0_; have q136 : ((rd_T115 l0_0 x10_1).f1) < (x7_1.length : Int) := of_decide_eq_true qz0_; obtain ⟨ad136, e136, hx136_0⟩ := Kd.at_int (Kd.R_reads' HO_7.out).2.2 ((rd_T115 l0_0 x10_1).f1) p136 q136; cases e136; have hn136_0 : ad136.block ≠ gb106 := Kd.own_blk (Kd.R_ne HO_7.out BK106.out (by decide)); have hn136_1 : ad136.block ≠ gb106 := Kd.own_blk (Kd.R_ne HO_7.out BK106.out (by decide)); have hn136_2 : ad136.block ≠ gb106 := Kd.own_blk (Kd.R_ne HO_7.out BK106.out (by decide)); have hn136_3 : ad136.block ≠ gb106 := Kd.own_blk (Kd.R_ne HO_7.out BK106.out (by decide)); replace hx136_0 := (cell_far (p := ⟨gb106, 0, none⟩) (by first | (rw [add_block]; exact hn136_0) | (show (Addr.add _ _).block ≠ _; rw [add_block]; exact hn136_0) | exact hn136_0) (.int .i64 ((rd_T115 l0_0 x10_1).f0))).trans hx136_0; replace hx136_0 := (cell_far (p := ⟨gb106, 1, none⟩) (by first | (rw [add_block]; exact hn136_1) | (show (Addr.add _ _).block ≠ _; rw [add_block]; exact hn136_1) | exact hn136_1) (.int .i64 ((rd_T115 l0_0 x10_1).f1))).trans hx136_0; replace hx136_0 := (cell_far (p := ⟨gb106, 2, none⟩) (by first | (rw [add_block]; exact hn136_2) | (show (Addr.add _ _).block ≠ _; rw [add_block]; exact hn136_2) | exact hn136_2) (.int .i64 ((rd_T115 l0_0 x10_1).f2))).trans hx136_0; replace hx136_0 := (cell_far (p := ⟨gb106, 3, none⟩) (by first | (rw [add_block]; exact hn136_3) | (show (Addr.add _ _).block ≠ _; rw [add_block]; exact hn136_3) | exact hn136_3) (.int .i64 ((rd_T115 l0_0 x10_1).f3))).trans hx136_0; (try have hy136_0 := fun (n_ : Nat) => (show ((((((w77.drewN n_).setCell ⟨gb106, 0, none⟩ (.int .i64 ((rd_T115 l0_0 x10_1).f0))).setCell ⟨gb106, 1, none⟩ (.int .i64 ((rd_T115 l0_0 x10_1).f1))).setCell ⟨gb106, 2, none⟩ (.int .i64 ((rd_T115 l0_0 x10_1).f2))).setCell ⟨gb106, 3, none⟩ (.int .i64 ((rd_T115 l0_0 x10_1).f3)))).cell? _ = some _ from hx136_0)); clear hn136_0; clear hn136_1; clear hn136_2; clear hn136_3; replace p136 := eq_true p136; replace q136 := eq_true q136) | ((with_reducible refine gate_builtin (b := .append) (xs := #[.tmp 92, .tmp 94]) rfl ?_); at_builtin; refine Kd.R_append (Kd.int .i64) (w0 := w) w.heap.size rfl (.tmp 92) (.tmp 94) 33 3 (.int .i64 0) 8 rfl Try.underlying33 info3 rfl (by decide) (by omega) (.slice (some ad136) x7_1.length co80) x7_1 (rd x7_1 ((rd_T115 l0_0 x10_1).f1)) [.int .i64 (rd x7_1 ((rd_T115 l0_0 x10_1).f1))] (fun _ => True) (fun _ => False) rfl qz22_ ?aP (fun _ hk => hk.elim) ?aF ?aO ?aB ?aS ?aL ?_; (case aP => exact rfl); (case aB => exact qz23_); (case aF => exact (fun _ _ => trivial)); (case aO => exact (by (with_reducible repeat (first | apply Kd.R_alloc | apply Kd.R_drewN | apply Kd.R_drew)); exact Kd.R_mono (Kd.R_far (p := ⟨gb106, 3, none⟩) (Kd.R_far (p := ⟨gb106, 2, none⟩) (Kd.R_far (p := ⟨gb106, 1, none⟩) (Kd.R_far (p := ⟨gb106, 0, none⟩) (Kd.R_types HO_7.out BK106.out (by decide)) (fun _ hk => hk.2) (.int .i64 ((rd_T115 l0_0 x10_1).f0))) (fun _ hk => hk.2) (.int .i64 ((rd_T115 l0_0 x10_1).f1))) (fun _ hk => hk.2) (.int .i64 ((rd_T115 l0_0 x10_1).f2))) (fun _ hk => hk.2) (.int .i64 ((rd_T115 l0_0 x10_1).f3))) (fun _ hk => trivial))); (case aS => exact (below_size qz23_)); (case aL => have := LMc75.out; omega); intro v138 w81 ho hb hg hat; rw [← Ny137.out] at ho; have n0_ := am_ (blk_grown (g := gb101) (o := .cells #[.slice (some ad105) l0_0.length c0_0] 63 (0, 0)) qz24_ hg (Kd.R_ne HO_7.out BK101.out (by decide))); have n1_ := am_ (blk_grown (g := gb106) (o := .cells #[.int .i64 ((rd_T115 l0_0 x10_1).f0), .int .i64 ((rd_T115 l0_0 x10_1).f1), .int .i64 ((rd_T115 l0_0 x10_1).f2), .int .i64 ((rd_T115 l0_0 x10_1).f3)] 115 (0, 0)) qz25_ hg (Kd.R_ne HO_7.out BK106.out (by decide))); have n2_ := am_ (hb); have n3_ := am_ (ho); clear BK101; clear BK106; clear HB; clear HO_7; have BK101 := n0_; have BK106 := n1_; have HB := n2_; have HO139 := n3_; clear n0_ n1_ n2_ n3_; clear ho hb hg hat)); try go_wp2_with (first | ((with_reducible refine gate_dst (N := 11) rfl ?_); refine box_event ?hg (N := 11) ?hd (cs := #[.int .i64 0, .int .i64 0, .int .i64 0, .int .i64 0]) (t := 115) ?hr ?_; (case hd => rfl); (case hg => rfl); (case hr => first | (go_simp; done) | (go_simp; rfl)); intro gb106 hg w77 hbox hb; have n0_ := am_ (Kd.R_below qz16_ hb); have n1_ := am_ (blk_below (g := gb101) (o := .cells #[.slice (some ad105) l0_0.length c0_0] 63 (0, 0)) qz11_ hb); have n2_ := am_ (below_step qz10_ hb); have n3_ := am_ (hbox); have n4_ := am_ ((by rw [hg]; exact (below_size qz10_) : w.heap.size ≤ gb106)); have n5_ := am_ ((by rw [hg]; exact (below_size qz10_) : w.heap.size ≤ gb106)); have n6_ := am_ ((by rw [hg]; exact Nat.ne_of_lt (blk_lt (g := gb101) (o := .cells #[.slice (some ad105) l0_0.length c0_0] 63 (0, 0)) qz11_) : gb101 ≠ gb106)); have n7_ := am_ ((by rw [hg]; exact Nat.ne_of_gt (blk_lt (g := gb101) (o := .cells #[.slice (some ad105) l0_0.length c0_0] 63 (0, 0)) qz11_) : gb106 ≠ gb101)); clear HO_7; clear BK101; clear HB; have HO_7 := n0_; have BK101 := n1_; have HB := n2_; have BK106 := n3_; have GW106 := n4_; have GE106 := n5_; have NB101_106 := n6_; have NB106_101 := n7_; clear n0_ n1_ n2_ n3_ n4_ n5_ n6_ n7_; clear hb hbox hg; have hnb78 := NB106_101.out; have hnc78 := NB101_106.out; have hcz79_0 : w77.cell? ⟨gb106, 0, none⟩ = some (.int .i64 0) := (blk_cell BK106.out 0).trans rfl; have hcz79_1 : w77.cell? ⟨gb106, 1, none⟩ = some (.int .i64 0) := (blk_cell BK106.out 1).trans rfl; have hcz79_2 : w77.cell? ⟨gb106, 2, none⟩ = some (.int .i64 0) := (blk_cell BK106.out 2).trans rfl; have hcz79_3 : w77.cell? ⟨gb106, 3, none⟩ = some (.int .i64 0) := (blk_cell BK106.out 3).trans rfl; have hfz79_0 := blk_frozen BK106.out 0; have hfz79_1 := blk_frozen BK106.out 1; have hfz79_2 := blk_frozen BK106.out 2; have hfz79_3 := blk_frozen BK106.out 3; obtain ⟨Ao80, co80, eo80⟩ := Kd.R_slice HO_7.out; subst eo80; have p136 : 0 ≤ (((rd_T115 l0_0 x10_1).f1) : Int) := of_decide_eq_true qz0_; have q136 : ((rd_T115 l0_0 x10_1).f1) < (x7_1.length : Int) := of_decide_eq_true qz0_; obtain ⟨ad136, e136, hx136_0⟩ := Kd.at_int (Kd.R_reads' HO_7.out).2.2 ((rd_T115 l0_0 x10_1).f1) p136 q136; cases e136; have hn136_0 : ad136.block ≠ gb106 := Kd.own_blk (Kd.R_ne HO_7.out BK106.out (by decide)); have hn136_1 : ad136.block ≠ gb106 := Kd.own_blk (Kd.R_ne HO_7.out BK106.out (by decide)); have hn136_2 : ad136.block ≠ gb106 := Kd.own_blk (Kd.R_ne HO_7.out BK106.out (by decide)); have hn136_3 : ad136.block ≠ gb106 := Kd.own_blk (Kd.R_ne HO_7.out BK106.out (by decide)); replace hx136_0 := (cell_far (p := ⟨gb106, 0, none⟩) (by first | (rw [add_block]; exact hn136_0) | (show (Addr.add _ _).block ≠ _; rw [add_block]; exact hn136_0) | exact hn136_0) (.int .i64 ((rd_T115 l0_0 x10_1).f0))).trans hx136_0; replace hx136_0 := (cell_far (p := ⟨gb106, 1, none⟩) (by first | (rw [add_block]; exact hn136_1) | (show (Addr.add _ _).block ≠ _; rw [add_block]; exact hn136_1) | exact hn136_1) (.int .i64 ((rd_T115 l0_0 x10_1).f1))).trans hx136_0; replace hx136_0 := (cell_far (p := ⟨gb106, 2, none⟩) (by first | (rw [add_block]; exact hn136_2) | (show (Addr.add _ _).block ≠ _; rw [add_block]; exact hn136_2) | exact hn136_2) (.int .i64 ((rd_T115 l0_0 x10_1).f2))).trans hx136_0; replace hx136_0 := (cell_far (p := ⟨gb106, 3, none⟩) (by first | (rw [add_block]; exact hn136_3) | (show (Addr.add _ _).block ≠ _; rw [add_block]; exact hn136_3) | exact hn136_3) (.int .i64 ((rd_T115 l0_0 x10_1).f3))).trans hx136_0; (try have hy136_0 := fun (n_ : Nat) => (show ((((((w77.drewN n_).setCell ⟨gb106, 0, none⟩ (.int .i64 ((rd_T115 l0_0 x10_1).f0))).setCell ⟨gb106, 1, none⟩ (.int .i64 ((rd_T115 l0_0 x10_1).f1))).setCell ⟨gb106, 2, none⟩ (.int .i64 ((rd_T115 l0_0 x10_1).f2))).setCell ⟨gb106, 3, none⟩ (.int .i64 ((rd_T115 l0_0 x10_1).f3)))).cell? _ = some _ from hx136_0)); clear hn136_0; clear hn136_1; clear hn136_2; clear hn136_3; replace p136 := eq_true p136; replace q136 := eq_true q136) | ((with_reducible refine gate_builtin (b := .append) (xs := #[.tmp 92, .tmp 94]) rfl ?_); at_builtin; refine Kd.R_append (Kd.int .i64) (w0 := w) w.heap.size rfl (.tmp 92) (.tmp 94) 33 3 (.int .i64 0) 8 rfl Try.underlying33 info3 rfl (by decide) (by omega) (.slice (some ad136) x7_1.length co80) x7_1 (rd x7_1 ((rd_T115 l0_0 x10_1).f1)) [.int .i64 (rd x7_1 ((rd_T115 l0_0 x10_1).f1))] (fun _ => True) (fun _ => False) rfl qz22_ ?aP (fun _ hk => hk.elim) ?aF ?aO ?aB ?aS ?aL ?_; (case aP => exact rfl); (case aB => exact qz23_); (case aF => exact (fun _ _ => trivial)); (case aO => exact (by (with_reducible repeat (first | apply Kd.R_alloc | apply Kd.R_drewN | apply Kd.R_drew)); exact Kd.R_mono (Kd.R_far (p := ⟨gb106, 3, none⟩) (Kd.R_far (p := ⟨gb106, 2, none⟩) (Kd.R_far (p := ⟨gb106, 1, none⟩) (Kd.R_far (p := ⟨gb106, 0, none⟩) (Kd.R_types HO_7.out BK106.out (by decide)) (fun _ hk => hk.2) (.int .i64 ((rd_T115 l0_0 x10_1).f0))) (fun _ hk => hk.2) (.int .i64 ((rd_T115 l0_0 x10_1).f1))) (fun _ hk => hk.2) (.int .i64 ((rd_T115 l0_0 x10_1).f2))) (fun _ hk => hk.2) (.int .i64 ((rd_T115 l0_0 x10_1).f3))) (fun _ hk => trivial))); (case aS => exact (below_size qz23_)); (case aL => have := LMc75.out; omega); intro v138 w81 ho hb hg hat; rw [← Ny137.out] at ho; have n0_ := am_ (blk_grown (g := gb101) (o := .cells #[.slice (some ad105) l0_0.length c0_0] 63 (0, 0)) qz24_ hg (Kd.R_ne HO_7.out BK101.out (by decide))); have n1_ := am_ (blk_grown (g := gb106) (o := .cells #[.int .i64 ((rd_T115 l0_0 x10_1).f0), .int .i64 ((rd_T115 l0_0 x10_1).f1), .int .i64 ((rd_T115 l0_0 x10_1).f2), .int .i64 ((rd_T115 l0_0 x10_1).f3)] 115 (0, 0)) qz25_ hg (Kd.R_ne HO_7.out BK106.out (by decide))); have n2_ := am_ (hb); have n3_ := am_ (ho); clear BK101; clear BK106; clear HB; clear HO_7; have BK101 := n0_; have BK106 := n1_; have HB := n2_; have HO139 := n3_; clear n0_ n1_ n2_ n3_; clear ho hb hg hat)))
              go_roundg k1
              case measure => have := HK1.out; omega
              case rel => exact ⟨(y137), (x8_1), (x9_1), (wrap64 (x10_1 + 1)), qz2_, qz2_, qz2_, H', ⟨qz3_⟩, ⟨(by (with_reducible repeat (first | apply Kd.R_alloc | apply Kd.R_drewN | apply Kd.R_drew)); exact HO139.out)⟩, ⟨qz11_⟩, ⟨qz23_⟩⟩
             ·
              rw [if_neg c75] at H
              exact absurd H (by simp)
            ·
             rw [if_neg c74] at H
             exact absurd H (by simp)
           ·
            rw [if_neg c73] at H
            exact absurd H (by simp)
    ·
     rw [if_neg c8] at H
     exact absurd H (by simp)
   ·
    rw [if_neg c7] at H
    have c7b0 : decide (x10_1 < (l0_0.length : Int)) = false := decide_eq_false c7
    clear c7
    obtain rfl := Option.some.inj H
    have hcz82_0 : wr.cell? ⟨gb101, 0, none⟩ = some (.slice A0_0 l0_0.length c0_0) := (blk_cell BK101.out 0).trans rfl
    have hfz82_0 := blk_frozen BK101.out 0
    go_wp2
    repeat (go_quiet (fail); try go_wp2)
    go_ret
    exact ⟨_, qz5_, qz16_, qz10_⟩

end Go.Proofs.Ytekijbcblajjbaa.PT
end
