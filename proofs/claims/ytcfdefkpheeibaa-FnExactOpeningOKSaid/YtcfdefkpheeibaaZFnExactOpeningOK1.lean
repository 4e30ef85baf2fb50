/- Part 1 of the proof of FnExactOpeningOK: what functions compute, shown step by step, and what that says (the claim's last text states the law). -/
import Derived.Test.YtcfdefkpheeibaaProg
import Derived.Test.YtcfdefkpheeibaaWMore
import Derived.Test.YtcfdefkpheeibaaWWords
import Derived.Test.YtcfdefkpheeibaaWLast
import Derived.Test.YtcfdefkpheeibaaWTab
import Derived.Test.YtcfdefkpheeibaaWQPut
import Derived.Test.YtcfdefkpheeibaaWApart
import Derived.Test.YtcfdefkpheeibaaWArr
import Derived.Test.YtcfdefkpheeibaaWZeros
import Derived.Test.YtcfdefkpheeibaaWFoot
import Derived.Test.YtcfdefkpheeibaaWKept
import Derived.Test.YtcfdefkpheeibaaWShare
import Derived.Test.YtcfdefkpheeibaaWN
import Derived.Test.YtcfdefkpheeibaaWRepsOne
import Derived.Test.YtcfdefkpheeibaaWGuard
import Derived.Test.YtcfdefkpheeibaaWNEv
import Derived.Test.YtcfdefkpheeibaaRows
import Derived.JoinedOf
import Derived.WalkKit
import Derived.ProofKit
import Derived.Below
import Derived.Deep.Draws
import Derived.Deep.AppendLies
import Derived.Maps.AppendAt
import Derived.OwnWalk
import Derived.Laws.BytesArg
import Derived.Laws.MakeOwn
import Derived.Laws.OwnMore
import Derived.Deep.OwnRows
import Derived.Tactics
import Derived.Lib.ConvBytes
import Derived.Laws.Slices
import Derived.KernelRfl
import Derived.RowKit3
import Derived.Deep.LoopGhost
import Derived.Deep.QuietTactic
import Derived.BigQuiet
import Derived.WideLaws
import Derived.Deep.DeepCutAuto
import Derived.Deep.CutBlock
import Derived.Deep.RegionHeld3
import Derived.Laws.Rows
import Derived.Lib.AppendStr
import Derived.ArgAppend
import Derived.Laws.IdiomCopy
import Derived.OrdersHeld
import Derived.Laws.BitsLemmas
import Derived.RowKit
import Derived.OpenShut
import Derived.ShutString
import Derived.ChangeOld
import Derived.SizedLaws
import Derived.Deep.Slices
import Derived.ChangeArms
import Derived.Test.YtcfdefkpheeibaaZFnExactOpeningOK0
section
namespace Go.Proofs.Ytcfdefkpheeibaa.PT
open Go.RowKit Go.Proofs.YtcfdefkpheeibaaW.PrintWords Go.Proofs.YtcfdefkpheeibaaW.PrintLast Go.Proofs.YtcfdefkpheeibaaW.PrintMore
attribute [local go_sem] max2_int min2_int max_two min_two max_three min_three max_four min_four   -- for this text's walks alone
set_option linter.unusedVariables false
set_option linter.unusedSimpArgs false

/-! ### spec_OpeningOK: function 15 -/
mutual
def spec_OpeningOK.j0 : Nat → Int → Bool → List (List (S44)) → List ByteArray → Int → Int → Int → List (S67) → Int → Int → Int → Option (Bool)
 | 0, _, _, _, _, _, _, _, _, _, _, _ => none
 | k + 1, x1, x54, x102000, x102001, x102002, x102003, x102004, x102005, x103000, x103001, x103002 => if x54 = true then (some false) else (spec_OpeningOK.l0 k x1 0 x102000 x102001 x102002 x102003 x102004 x102005 x103000 x103001 x103002)
def spec_OpeningOK.l0 : Nat → Int → Int → List (List (S44)) → List ByteArray → Int → Int → Int → List (S67) → Int → Int → Int → Option (Bool)
 | 0, _, _, _, _, _, _, _, _, _, _, _ => none
 | k + 1, x1, x7, x102000, x102001, x102002, x102003, x102004, x102005, x103000, x103001, x103002 => if x7 < x1 then (if 0 ≤ x7 then (if x7 < (x102000.length : Int) then (if ((rd_L4 x102000 x7).length : Int) = 3 then ((spec_l02List.f k (rd_L4 x102000 x7)).bind fun t109 => (if t109 = true then (if x7 > 0 then (if 0 ≤ (wrap64 (x7 - 1)) then (if (wrap64 (x7 - 1)) < (x102001.length : Int) then (if ((rdOf ByteArray.empty x102001 (wrap64 (x7 - 1))).size : Int) = 32 then (spec_OpeningOK.l0 k x1 (wrap64 (x7 + 1)) x102000 x102001 x102002 x102003 x102004 x102005 x103000 x103001 x103002) else (some false)) else (none)) else (none)) else (spec_OpeningOK.l0 k x1 (wrap64 (x7 + 1)) x102000 x102001 x102002 x102003 x102004 x102005 x103000 x103001 x103002)) else (some false))) else (some false)) else (none)) else (none)) else (spec_OpeningOK.l1 k x1 0 x102000 x102001 x102002 x102003 x102004 x102005 x103000 x103001 x103002)
def spec_OpeningOK.l1 : Nat → Int → Int → List (List (S44)) → List ByteArray → Int → Int → Int → List (S67) → Int → Int → Int → Option (Bool)
 | 0, _, _, _, _, _, _, _, _, _, _, _ => none
 | k + 1, x1, x8, x102000, x102001, x102002, x102003, x102004, x102005, x103000, x103001, x103002 => if x8 < (x102005.length : Int) then (if 0 ≤ x8 then (if (((rd_T67 x102005 x8).f0).length : Int) = (wrap64 (2 * x1)) then ((spec_l02List.f k ((rd_T67 x102005 x8).f0)).bind fun t113 => (if t113 = true then (spec_OpeningOK.j3 k x1 x8 ((((rd_T67 x102005 x8).f1).length : Int) != x1) x102000 x102001 x102002 x102003 x102004 x102005 x103000 x103001 x103002 ((rd_T67 x102005 x8).f0) ((rd_T67 x102005 x8).f1)) else (spec_OpeningOK.j3 k x1 x8 true x102000 x102001 x102002 x102003 x102004 x102005 x103000 x103001 x103002 ((rd_T67 x102005 x8).f0) ((rd_T67 x102005 x8).f1)))) else (spec_OpeningOK.j3 k x1 x8 true x102000 x102001 x102002 x102003 x102004 x102005 x103000 x103001 x103002 ((rd_T67 x102005 x8).f0) ((rd_T67 x102005 x8).f1))) else (none)) else (some true)
def spec_OpeningOK.j3 : Nat → Int → Int → Bool → List (List (S44)) → List ByteArray → Int → Int → Int → List (S67) → Int → Int → Int → List (S44) → List (List ByteArray) → Option (Bool)
 | 0, _, _, _, _, _, _, _, _, _, _, _, _, _, _ => none
 | k + 1, x1, x8, x120, x102000, x102001, x102002, x102003, x102004, x102005, x103000, x103001, x103002, x113000, x113001 => if x120 = true then (some false) else (spec_OpeningOK.l2 k x1 x8 0 x102000 x102001 x102002 x102003 x102004 x102005 x103000 x103001 x103002 x113000 x113001)
def spec_OpeningOK.l2 : Nat → Int → Int → Int → List (List (S44)) → List ByteArray → Int → Int → Int → List (S67) → Int → Int → Int → List (S44) → List (List ByteArray) → Option (Bool)
 | 0, _, _, _, _, _, _, _, _, _, _, _, _, _, _ => none
 | k + 1, x1, x8, x10, x102000, x102001, x102002, x102003, x102004, x102005, x103000, x103001, x103002, x113000, x113001 => if x10 < x1 then (if 0 ≤ x10 then (if x10 < (x113001.length : Int) then (if ((rd_L6 x113001 x10).length : Int) = (wrap64 ((wrap64 ((wrap64 (x1 + x103000)) - 1)) - x10)) then (spec_OpeningOK.l3 k x1 x8 x10 0 x102000 x102001 x102002 x102003 x102004 x102005 x103000 x103001 x103002 x113000 x113001) else (some false)) else (none)) else (none)) else (spec_OpeningOK.l1 k x1 (wrap64 (x8 + 1)) x102000 x102001 x102002 x102003 x102004 x102005 x103000 x103001 x103002)
def spec_OpeningOK.l3 : Nat → Int → Int → Int → Int → List (List (S44)) → List ByteArray → Int → Int → Int → List (S67) → Int → Int → Int → List (S44) → List (List ByteArray) → Option (Bool)
 | 0, _, _, _, _, _, _, _, _, _, _, _, _, _, _, _ => none
 | k + 1, x1, x8, x10, x11, x102000, x102001, x102002, x102003, x102004, x102005, x103000, x103001, x103002, x113000, x113001 => if 0 ≤ x10 then (if x10 < (x113001.length : Int) then (if x11 < ((rd_L6 x113001 x10).length : Int) then (if 0 ≤ x11 then (if ((rdOf ByteArray.empty (rd_L6 x113001 x10) x11).size : Int) = 32 then (spec_OpeningOK.l3 k x1 x8 x10 (wrap64 (x11 + 1)) x102000 x102001 x102002 x102003 x102004 x102005 x103000 x103001 x103002 x113000 x113001) else (some false)) else (none)) else (spec_OpeningOK.l2 k x1 x8 (wrap64 (x10 + 1)) x102000 x102001 x102002 x102003 x102004 x102005 x103000 x103001 x103002 x113000 x113001)) else (none)) else (none)
end
def spec_OpeningOK.f (k : Nat) (l0_0 : List (List (S44))) (l0_1 : List ByteArray) (a0_2 : Int) (a0_3 : Int) (a0_4 : Int) (l0_5 : List (S67)) (a1 : Int) (a2_0 : Int) (a2_1 : Int) (a2_2 : Int) : Option (Bool) := (spec_l01In.f a1 1 6).bind fun t103 => (if t103 = true then ((spec_SettingOK.f a2_0 a2_1 a2_2).bind fun t104 => (if t104 = true then (if (l0_0.length : Int) = a1 then (if (l0_1.length : Int) = (wrap64 (a1 - 1)) then (if (l0_5.length : Int) = a2_1 then ((spec_ExtOK.f a0_2 a0_3).bind fun t105 => (if t105 = true then ((spec_l01In.f a0_4 0 65535).bind fun t106 => (spec_OpeningOK.j0 k a1 (!t106) l0_0 l0_1 a0_2 a0_3 a0_4 l0_5 a2_0 a2_1 a2_2)) else (spec_OpeningOK.j0 k a1 true l0_0 l0_1 a0_2 a0_3 a0_4 l0_5 a2_0 a2_1 a2_2))) else (spec_OpeningOK.j0 k a1 true l0_0 l0_1 a0_2 a0_3 a0_4 l0_5 a2_0 a2_1 a2_2)) else (spec_OpeningOK.j0 k a1 true l0_0 l0_1 a0_2 a0_3 a0_4 l0_5 a2_0 a2_1 a2_2)) else (spec_OpeningOK.j0 k a1 true l0_0 l0_1 a0_2 a0_3 a0_4 l0_5 a2_0 a2_1 a2_2)) else (spec_OpeningOK.j0 k a1 true l0_0 l0_1 a0_2 a0_3 a0_4 l0_5 a2_0 a2_1 a2_2))) else (spec_OpeningOK.j0 k a1 true l0_0 l0_1 a0_2 a0_3 a0_4 l0_5 a2_0 a2_1 a2_2))
theorem spec_OpeningOK.mono_l : ∀ k, (∀ y0 y1 y2 y3 y4 y5 y6 y7 y8 y9 y10, LeO (spec_OpeningOK.j0 k y0 y1 y2 y3 y4 y5 y6 y7 y8 y9 y10) (spec_OpeningOK.j0 (k + 1) y0 y1 y2 y3 y4 y5 y6 y7 y8 y9 y10)) ∧ (∀ y0 y1 y2 y3 y4 y5 y6 y7 y8 y9 y10, LeO (spec_OpeningOK.l0 k y0 y1 y2 y3 y4 y5 y6 y7 y8 y9 y10) (spec_OpeningOK.l0 (k + 1) y0 y1 y2 y3 y4 y5 y6 y7 y8 y9 y10)) ∧ (∀ y0 y1 y2 y3 y4 y5 y6 y7 y8 y9 y10, LeO (spec_OpeningOK.l1 k y0 y1 y2 y3 y4 y5 y6 y7 y8 y9 y10) (spec_OpeningOK.l1 (k + 1) y0 y1 y2 y3 y4 y5 y6 y7 y8 y9 y10)) ∧ (∀ y0 y1 y2 y3 y4 y5 y6 y7 y8 y9 y10 y11 y12 y13, LeO (spec_OpeningOK.j3 k y0 y1 y2 y3 y4 y5 y6 y7 y8 y9 y10 y11 y12 y13) (spec_OpeningOK.j3 (k + 1) y0 y1 y2 y3 y4 y5 y6 y7 y8 y9 y10 y11 y12 y13)) ∧ (∀ y0 y1 y2 y3 y4 y5 y6 y7 y8 y9 y10 y11 y12 y13, LeO (spec_OpeningOK.l2 k y0 y1 y2 y3 y4 y5 y6 y7 y8 y9 y10 y11 y12 y13) (spec_OpeningOK.l2 (k + 1) y0 y1 y2 y3 y4 y5 y6 y7 y8 y9 y10 y11 y12 y13)) ∧ (∀ y0 y1 y2 y3 y4 y5 y6 y7 y8 y9 y10 y11 y12 y13 y14, LeO (spec_OpeningOK.l3 k y0 y1 y2 y3 y4 y5 y6 y7 y8 y9 y10 y11 y12 y13 y14) (spec_OpeningOK.l3 (k + 1) y0 y1 y2 y3 y4 y5 y6 y7 y8 y9 y10 y11 y12 y13 y14))
 | 0 => ⟨fun _ _ _ _ _ _ _ _ _ _ _ r h => by simp [spec_OpeningOK.j0] at h, fun _ _ _ _ _ _ _ _ _ _ _ r h => by simp [spec_OpeningOK.l0] at h, fun _ _ _ _ _ _ _ _ _ _ _ r h => by simp [spec_OpeningOK.l1] at h, fun _ _ _ _ _ _ _ _ _ _ _ _ _ _ r h => by simp [spec_OpeningOK.j3] at h, fun _ _ _ _ _ _ _ _ _ _ _ _ _ _ r h => by simp [spec_OpeningOK.l2] at h, fun _ _ _ _ _ _ _ _ _ _ _ _ _ _ _ r h => by simp [spec_OpeningOK.l3] at h⟩
 | k + 1 => by
  obtain ⟨ih0, ih1, ih2, ih3, ih4, ih5⟩ := spec_OpeningOK.mono_l k
  refine ⟨?_, ?_, ?_, ?_, ?_, ?_⟩
  ·
   intro y0 y1 y2 y3 y4 y5 y6 y7 y8 y9 y10
   unfold spec_OpeningOK.j0
   repeat' first
   | (with_reducible exact ih0 _ _ _ _ _ _ _ _ _ _ _)
   | (with_reducible exact ih1 _ _ _ _ _ _ _ _ _ _ _)
   | (with_reducible exact ih2 _ _ _ _ _ _ _ _ _ _ _)
   | (with_reducible exact ih3 _ _ _ _ _ _ _ _ _ _ _ _ _ _)
   | (with_reducible exact ih4 _ _ _ _ _ _ _ _ _ _ _ _ _ _)
   | (with_reducible exact ih5 _ _ _ _ _ _ _ _ _ _ _ _ _ _ _)
   | (with_reducible exact spec_l02List.mono _ _)
   | (with_reducible exact LeO.refl _)
   | (with_reducible exact LeO.none _)
   | (with_reducible refine LeO.ite ?_ ?_)
   | (with_reducible refine LeO.bind ?_ (fun _ => ?_))
   | exact ih0 _ _ _ _ _ _ _ _ _ _ _
   | exact ih1 _ _ _ _ _ _ _ _ _ _ _
   | exact ih2 _ _ _ _ _ _ _ _ _ _ _
   | exact ih3 _ _ _ _ _ _ _ _ _ _ _ _ _ _
   | exact ih4 _ _ _ _ _ _ _ _ _ _ _ _ _ _
   | exact ih5 _ _ _ _ _ _ _ _ _ _ _ _ _ _ _
   | exact spec_l02List.mono _ _
   | exact LeO.none _
   | refine LeO.ite ?_ ?_
   | refine LeO.bind ?_ (fun _ => ?_)
  ·
   intro y0 y1 y2 y3 y4 y5 y6 y7 y8 y9 y10
   unfold spec_OpeningOK.l0
   repeat' first
   | (with_reducible exact ih0 _ _ _ _ _ _ _ _ _ _ _)
   | (with_reducible exact ih1 _ _ _ _ _ _ _ _ _ _ _)
   | (with_reducible exact ih2 _ _ _ _ _ _ _ _ _ _ _)
   | (with_reducible exact ih3 _ _ _ _ _ _ _ _ _ _ _ _ _ _)
   | (with_reducible exact ih4 _ _ _ _ _ _ _ _ _ _ _ _ _ _)
   | (with_reducible exact ih5 _ _ _ _ _ _ _ _ _ _ _ _ _ _ _)
   | (with_reducible exact spec_l02List.mono _ _)
   | (with_reducible exact LeO.refl _)
   | (with_reducible exact LeO.none _)
   | (with_reducible refine LeO.ite ?_ ?_)
   | (with_reducible refine LeO.bind ?_ (fun _ => ?_))
   | exact ih0 _ _ _ _ _ _ _ _ _ _ _
   | exact ih1 _ _ _ _ _ _ _ _ _ _ _
   | exact ih2 _ _ _ _ _ _ _ _ _ _ _
   | exact ih3 _ _ _ _ _ _ _ _ _ _ _ _ _ _
   | exact ih4 _ _ _ _ _ _ _ _ _ _ _ _ _ _
   | exact ih5 _ _ _ _ _ _ _ _ _ _ _ _ _ _ _
   | exact spec_l02List.mono _ _
   | exact LeO.none _
   | refine LeO.ite ?_ ?_
   | refine LeO.bind ?_ (fun _ => ?_)
  ·
   intro y0 y1 y2 y3 y4 y5 y6 y7 y8 y9 y10
   unfold spec_OpeningOK.l1
   repeat' first
   | (with_reducible exact ih0 _ _ _ _ _ _ _ _ _ _ _)
   | (with_reducible exact ih1 _ _ _ _ _ _ _ _ _ _ _)
   | (with_reducible exact ih2 _ _ _ _ _ _ _ _ _ _ _)
   | (with_reducible exact ih3 _ _ _ _ _ _ _ _ _ _ _ _ _ _)
   | (with_reducible exact ih4 _ _ _ _ _ _ _ _ _ _ _ _ _ _)
   | (with_reducible exact ih5 _ _ _ _ _ _ _ _ _ _ _ _ _ _ _)
   | (with_reducible exact spec_l02List.mono _ _)
   | (with_reducible exact LeO.refl _)
   | (with_reducible exact LeO.none _)
   | (with_reducible refine LeO.ite ?_ ?_)
   | (with_reducible refine LeO.bind ?_ (fun _ => ?_))
   | exact ih0 _ _ _ _ _ _ _ _ _ _ _
   | exact ih1 _ _ _ _ _ _ _ _ _ _ _
   | exact ih2 _ _ _ _ _ _ _ _ _ _ _
   | exact ih3 _ _ _ _ _ _ _ _ _ _ _ _ _ _
   | exact ih4 _ _ _ _ _ _ _ _ _ _ _ _ _ _
   | exact ih5 _ _ _ _ _ _ _ _ _ _ _ _ _ _ _
   | exact spec_l02List.mono _ _
   | exact LeO.none _
   | refine LeO.ite ?_ ?_
   | refine LeO.bind ?_ (fun _ => ?_)
  ·
   intro y0 y1 y2 y3 y4 y5 y6 y7 y8 y9 y10 y11 y12 y13
   unfold spec_OpeningOK.j3
   repeat' first
   | (with_reducible exact ih0 _ _ _ _ _ _ _ _ _ _ _)
   | (with_reducible exact ih1 _ _ _ _ _ _ _ _ _ _ _)
   | (with_reducible exact ih2 _ _ _ _ _ _ _ _ _ _ _)
   | (with_reducible exact ih3 _ _ _ _ _ _ _ _ _ _ _ _ _ _)
   | (with_reducible exact ih4 _ _ _ _ _ _ _ _ _ _ _ _ _ _)
   | (with_reducible exact ih5 _ _ _ _ _ _ _ _ _ _ _ _ _ _ _)
   | (with_reducible exact spec_l02List.mono _ _)
   | (with_reducible exact LeO.refl _)
   | (with_reducible exact LeO.none _)
   | (with_reducible refine LeO.ite ?_ ?_)
   | (with_reducible refine LeO.bind ?_ (fun _ => ?_))
   | exact ih0 _ _ _ _ _ _ _ _ _ _ _
   | exact ih1 _ _ _ _ _ _ _ _ _ _ _
   | exact ih2 _ _ _ _ _ _ _ _ _ _ _
   | exact ih3 _ _ _ _ _ _ _ _ _ _ _ _ _ _
   | exact ih4 _ _ _ _ _ _ _ _ _ _ _ _ _ _
   | exact ih5 _ _ _ _ _ _ _ _ _ _ _ _ _ _ _
   | exact spec_l02List.mono _ _
   | exact LeO.none _
   | refine LeO.ite ?_ ?_
   | refine LeO.bind ?_ (fun _ => ?_)
  ·
   intro y0 y1 y2 y3 y4 y5 y6 y7 y8 y9 y10 y11 y12 y13
   unfold spec_OpeningOK.l2
   repeat' first
   | (with_reducible exact ih0 _ _ _ _ _ _ _ _ _ _ _)
   | (with_reducible exact ih1 _ _ _ _ _ _ _ _ _ _ _)
   | (with_reducible exact ih2 _ _ _ _ _ _ _ _ _ _ _)
   | (with_reducible exact ih3 _ _ _ _ _ _ _ _ _ _ _ _ _ _)
   | (with_reducible exact ih4 _ _ _ _ _ _ _ _ _ _ _ _ _ _)
   | (with_reducible exact ih5 _ _ _ _ _ _ _ _ _ _ _ _ _ _ _)
   | (with_reducible exact spec_l02List.mono _ _)
   | (with_reducible exact LeO.refl _)
   | (with_reducible exact LeO.none _)
   | (with_reducible refine LeO.ite ?_ ?_)
   | (with_reducible refine LeO.bind ?_ (fun _ => ?_))
   | exact ih0 _ _ _ _ _ _ _ _ _ _ _
   | exact ih1 _ _ _ _ _ _ _ _ _ _ _
   | exact ih2 _ _ _ _ _ _ _ _ _ _ _
   | exact ih3 _ _ _ _ _ _ _ _ _ _ _ _ _ _
   | exact ih4 _ _ _ _ _ _ _ _ _ _ _ _ _ _
   | exact ih5 _ _ _ _ _ _ _ _ _ _ _ _ _ _ _
   | exact spec_l02List.mono _ _
   | exact LeO.none _
   | refine LeO.ite ?_ ?_
   | refine LeO.bind ?_ (fun _ => ?_)
  ·
   intro y0 y1 y2 y3 y4 y5 y6 y7 y8 y9 y10 y11 y12 y13 y14
   unfold spec_OpeningOK.l3
   repeat' first
   | (with_reducible exact ih0 _ _ _ _ _ _ _ _ _ _ _)
   | (with_reducible exact ih1 _ _ _ _ _ _ _ _ _ _ _)
   | (with_reducible exact ih2 _ _ _ _ _ _ _ _ _ _ _)
   | (with_reducible exact ih3 _ _ _ _ _ _ _ _ _ _ _ _ _ _)
   | (with_reducible exact ih4 _ _ _ _ _ _ _ _ _ _ _ _ _ _)
   | (with_reducible exact ih5 _ _ _ _ _ _ _ _ _ _ _ _ _ _ _)
   | (with_reducible exact spec_l02List.mono _ _)
   | (with_reducible exact LeO.refl _)
   | (with_reducible exact LeO.none _)
   | (with_reducible refine LeO.ite ?_ ?_)
   | (with_reducible refine LeO.bind ?_ (fun _ => ?_))
   | exact ih0 _ _ _ _ _ _ _ _ _ _ _
   | exact ih1 _ _ _ _ _ _ _ _ _ _ _
   | exact ih2 _ _ _ _ _ _ _ _ _ _ _
   | exact ih3 _ _ _ _ _ _ _ _ _ _ _ _ _ _
   | exact ih4 _ _ _ _ _ _ _ _ _ _ _ _ _ _
   | exact ih5 _ _ _ _ _ _ _ _ _ _ _ _ _ _ _
   | exact spec_l02List.mono _ _
   | exact LeO.none _
   | refine LeO.ite ?_ ?_
   | refine LeO.bind ?_ (fun _ => ?_)
theorem spec_OpeningOK.mono : ∀ a0 a1 a2 a3 a4 a5 a6 a7 a8 a9 k, LeO (spec_OpeningOK.f k a0 a1 a2 a3 a4 a5 a6 a7 a8 a9) (spec_OpeningOK.f (k + 1) a0 a1 a2 a3 a4 a5 a6 a7 a8 a9) := by
 intro a0 a1 a2 a3 a4 a5 a6 a7 a8 a9 k
 obtain ⟨ih0, ih1, ih2, ih3, ih4, ih5⟩ := spec_OpeningOK.mono_l k
 unfold spec_OpeningOK.f
 repeat' first
   | (with_reducible exact ih0 _ _ _ _ _ _ _ _ _ _ _)
   | (with_reducible exact ih1 _ _ _ _ _ _ _ _ _ _ _)
   | (with_reducible exact ih2 _ _ _ _ _ _ _ _ _ _ _)
   | (with_reducible exact ih3 _ _ _ _ _ _ _ _ _ _ _ _ _ _)
   | (with_reducible exact ih4 _ _ _ _ _ _ _ _ _ _ _ _ _ _)
   | (with_reducible exact ih5 _ _ _ _ _ _ _ _ _ _ _ _ _ _ _)
   | (with_reducible exact spec_l02List.mono _ _)
   | (with_reducible exact LeO.refl _)
   | (with_reducible exact LeO.none _)
   | (with_reducible refine LeO.ite ?_ ?_)
   | (with_reducible refine LeO.bind ?_ (fun _ => ?_))
   | exact ih0 _ _ _ _ _ _ _ _ _ _ _
   | exact ih1 _ _ _ _ _ _ _ _ _ _ _
   | exact ih2 _ _ _ _ _ _ _ _ _ _ _
   | exact ih3 _ _ _ _ _ _ _ _ _ _ _ _ _ _
   | exact ih4 _ _ _ _ _ _ _ _ _ _ _ _ _ _
   | exact ih5 _ _ _ _ _ _ _ _ _ _ _ _ _ _ _
   | exact spec_l02List.mono _ _
   | exact LeO.none _
   | refine LeO.ite ?_ ?_
   | refine LeO.bind ?_ (fun _ => ?_)
set_option maxHeartbeats 8000000 in
set_option maxRecDepth 100000 in
theorem spec_OpeningOK.calls (k : Nat) (A0_0 : Option Addr) (c0_0 : Nat) (l0_0 : List (List (S44))) (A0_1 : Option Addr) (c0_1 : Nat) (l0_1 : List ByteArray) (a0_2 : Int) (a0_3 : Int) (a0_4 : Int) (A0_5 : Option Addr) (c0_5 : Nat) (l0_5 : List (S67)) (a1 : Int) (a2_0 : Int) (a2_1 : Int) (a2_2 : Int) (r : Bool) (w : World) (hr0_0 : Kd.C (Kd.slice 44 k44) w A0_0 l0_0.length l0_0) (hc0_0 : l0_0.length ≤ c0_0) (hr0_1 : Kd.C Kd.string w A0_1 l0_1.length l0_1) (hc0_1 : l0_1.length ≤ c0_1) (hr0_5 : Kd.C k67 w A0_5 l0_5.length l0_5) (hc0_5 : l0_5.length ≤ c0_5) (h : spec_OpeningOK.f k l0_0 l0_1 a0_2 a0_3 a0_4 l0_5 a1 a2_0 a2_1 a2_2 = some r) :
  Calls Try.prog 15 #[.agg #[.slice A0_0 l0_0.length c0_0, .slice A0_1 l0_1.length c0_1, .int .i64 a0_2, .int .i64 a0_3, .int .i64 a0_4, .slice A0_5 l0_5.length c0_5], .int .i64 a1, .agg #[.int .i64 a2_0, .int .i64 a2_1, .int .i64 a2_2]] w fun e w' => e = .returned (.bool r) ∧ Below w.heap.size w w' := by
 have hu47 := Try.underlying47
 have hu49 := Try.underlying49
 have hu44 := Try.underlying44
 have hu67 := Try.underlying67
 have HR0_0 := am_ hr0_0
 have HC0_0 := am_ hc0_0
 clear hr0_0 hc0_0
 have HR0_1 := am_ hr0_1
 have HC0_1 := am_ hc0_1
 clear hr0_1 hc0_1
 have HR0_5 := am_ hr0_5
 have HC0_5 := am_ hc0_5
 clear hr0_5 hc0_5
 have HB := am_ (Below.refl w.heap.size w)
 have H : ((spec_l01In.f a1 1 6).bind fun t103 => (if t103 = true then ((spec_SettingOK.f a2_0 a2_1 a2_2).bind fun t104 => (if t104 = true then (if (l0_0.length : Int) = a1 then (if (l0_1.length : Int) = (wrap64 (a1 - 1)) then (if (l0_5.length : Int) = a2_1 then ((spec_ExtOK.f a0_2 a0_3).bind fun t105 => (if t105 = true then ((spec_l01In.f a0_4 0 65535).bind fun t106 => (spec_OpeningOK.j0 k a1 (!t106) l0_0 l0_1 a0_2 a0_3 a0_4 l0_5 a2_0 a2_1 a2_2)) else (spec_OpeningOK.j0 k a1 true l0_0 l0_1 a0_2 a0_3 a0_4 l0_5 a2_0 a2_1 a2_2))) else (spec_OpeningOK.j0 k a1 true l0_0 l0_1 a0_2 a0_3 a0_4 l0_5 a2_0 a2_1 a2_2)) else (spec_OpeningOK.j0 k a1 true l0_0 l0_1 a0_2 a0_3 a0_4 l0_5 a2_0 a2_1 a2_2)) else (spec_OpeningOK.j0 k a1 true l0_0 l0_1 a0_2 a0_3 a0_4 l0_5 a2_0 a2_1 a2_2)) else (spec_OpeningOK.j0 k a1 true l0_0 l0_1 a0_2 a0_3 a0_4 l0_5 a2_0 a2_1 a2_2))) else (spec_OpeningOK.j0 k a1 true l0_0 l0_1 a0_2 a0_3 a0_4 l0_5 a2_0 a2_1 a2_2))) = some r := h
 clear h
 have HC4 := am_ H
 clear H
 go_enter Try.func15, Try.ntmps15
 go_upto_region 1 with (first | ((with_reducible refine gate_dst (N := 3) rfl ?_); (try (refine gate_guard (by rfl) ?_; dsimp only)); refine box_event ?hg (N := 3) ?hd (cs := #[.slice A0_0 l0_0.length c0_0, .slice A0_1 l0_1.length c0_1, .int .i64 a0_2, .int .i64 a0_3, .int .i64 a0_4, .slice A0_5 l0_5.length c0_5]) (t := 47) ?hr ?_; (case hd => rfl); (case hg => rfl); (case hr => first | (go_simp; done) | (go_simp; rfl)); intro gb101 hg w5 hbox hb; have n0_ := am_ (below_step qz4_ hb); have n1_ := am_ (hbox); have n2_ := am_ ((by rw [hg]; exact (below_size qz4_) : w.heap.size ≤ gb101)); have n3_ := am_ ((by rw [hg]; exact (below_size qz4_) : w.heap.size ≤ gb101)); clear HB; have HB := n0_; have BK101 := n1_; have GW101 := n2_; have GE101 := n3_; clear n0_ n1_ n2_ n3_; clear hb hbox hg) | ((with_reducible refine gate_dst (N := 5) rfl ?_); (try (refine gate_guard (by rfl) ?_; dsimp only)); refine box_event ?hg (N := 5) ?hd (cs := #[.int .i64 a2_0, .int .i64 a2_1, .int .i64 a2_2]) (t := 49) ?hr ?_; (case hd => rfl); (case hg => rfl); (case hr => first | (go_simp; done) | (go_simp; rfl)); intro gb102 hg w6 hbox hb; have n0_ := am_ (blk_below (g := gb101) (o := .cells #[.slice A0_0 l0_0.length c0_0, .slice A0_1 l0_1.length c0_1, .int .i64 a0_2, .int .i64 a0_3, .int .i64 a0_4, .slice A0_5 l0_5.length c0_5] 47 (0, 0)) qz7_ hb); have n1_ := am_ (below_step qz6_ hb); have n2_ := am_ (hbox); have n3_ := am_ ((by rw [hg]; exact (below_size qz6_) : w.heap.size ≤ gb102)); have n4_ := am_ ((by rw [hg]; exact (below_size qz6_) : w.heap.size ≤ gb102)); have n5_ := am_ ((by rw [hg]; exact Nat.ne_of_lt (blk_lt (g := gb101) (o := .cells #[.slice A0_0 l0_0.length c0_0, .slice A0_1 l0_1.length c0_1, .int .i64 a0_2, .int .i64 a0_3, .int .i64 a0_4, .slice A0_5 l0_5.length c0_5] 47 (0, 0)) qz7_) : gb101 ≠ gb102)); have n6_ := am_ ((by rw [hg]; exact Nat.ne_of_gt (blk_lt (g := gb101) (o := .cells #[.slice A0_0 l0_0.length c0_0, .slice A0_1 l0_1.length c0_1, .int .i64 a0_2, .int .i64 a0_3, .int .i64 a0_4, .slice A0_5 l0_5.length c0_5] 47 (0, 0)) qz7_) : gb102 ≠ gb101)); clear BK101; clear HB; have BK101 := n0_; have HB := n1_; have BK102 := n2_; have GW102 := n3_; have GE102 := n4_; have NB101_102 := n5_; have NB102_101 := n6_; clear n0_ n1_ n2_ n3_ n4_ n5_ n6_; clear hb hbox hg))
 repeat (go_quiet (fail); go_upto_region 1 with (first | ((with_reducible refine gate_dst (N := 3) rfl ?_); (try (refine gate_guard (by rfl) ?_; dsimp only)); refine box_event ?hg (N := 3) ?hd (cs := #[.slice A0_0 l0_0.length c0_0, .slice A0_1 l0_1.length c0_1, .int .i64 a0_2, .int .i64 a0_3, .int .i64 a0_4, .slice A0_5 l0_5.length c0_5]) (t := 47) ?hr ?_; (case hd => rfl); (case hg => rfl); (case hr => first | (go_simp; done) | (go_simp; rfl)); intro gb101 hg w5 hbox hb; have n0_ := am_ (below_step qz4_ hb); have n1_ := am_ (hbox); have n2_ := am_ ((by rw [hg]; exact (below_size qz4_) : w.heap.size ≤ gb101)); have n3_ := am_ ((by rw [hg]; exact (below_size qz4_) : w.heap.size ≤ gb101)); clear HB; have HB := n0_; have BK101 := n1_; have GW101 := n2_; have GE101 := n3_; clear n0_ n1_ n2_ n3_; clear hb hbox hg) | ((with_reducible refine gate_dst (N := 5) rfl ?_); (try (refine gate_guard (by rfl) ?_; dsimp only)); refine box_event ?hg (N := 5) ?hd (cs := #[.int .i64 a2_0, .int .i64 a2_1, .int .i64 a2_2]) (t := 49) ?hr ?_; (case hd => rfl); (case hg => rfl); (case hr => first | (go_simp; done) | (go_simp; rfl)); intro gb102 hg w6 hbox hb; have n0_ := am_ (blk_below (g := gb101) (o := .cells #[.slice A0_0 l0_0.length c0_0, .slice A0_1 l0_1.length c0_1, .int .i64 a0_2, .int .i64 a0_3, .int .i64 a0_4, .slice A0_5 l0_5.length c0_5] 47 (0, 0)) qz7_ hb); have n1_ := am_ (below_step qz6_ hb); have n2_ := am_ (hbox); have n3_ := am_ ((by rw [hg]; exact (below_size qz6_) : w.heap.size ≤ gb102)); have n4_ := am_ ((by rw [hg]; exact (below_size qz6_) : w.heap.size ≤ gb102)); have n5_ := am_ ((by rw [hg]; exact Nat.ne_of_lt (blk_lt (g := gb101) (o := .cells #[.slice A0_0 l0_0.length c0_0, .slice A0_1 l0_1.length c0_1, .int .i64 a0_2, .int .i64 a0_3, .int .i64 a0_4, .slice A0_5 l0_5.length c0_5] 47 (0, 0)) qz7_) : gb101 ≠ gb102)); have n6_ := am_ ((by rw [hg]; exact Nat.ne_of_gt (blk_lt (g := gb101) (o := .cells #[.slice A0_0 l0_0.length c0_0, .slice A0_1 l0_1.length c0_1, .int .i64 a0_2, .int .i64 a0_3, .int .i64 a0_4, .slice A0_5 l0_5.length c0_5] 47 (0, 0)) qz7_) : gb102 ≠ gb101)); clear BK101; clear HB; have BK101 := n0_; have HB := n1_; have BK102 := n2_; have GW102 := n3_; have GE102 := n4_; have NB101_102 := n5_; have NB102_101 := n6_; clear n0_ n1_ n2_ n3_ n4_ n5_ n6_; clear hb hbox hg)))
 (try simp only [Act.put, List.setIfInBounds_toArray, List.set_cons_zero, List.set_cons_succ])
 go_cut [54] (fun v54 wc => ∃ (kq : Nat) (x54_3 : Bool), v54 = .bool x54_3 ∧ Aside0 (spec_OpeningOK.j0 kq a1 x54_3 l0_0 l0_1 a0_2 a0_3 a0_4 l0_5 a2_0 a2_1 a2_2 = some r) ∧ Aside0 (kq ≤ k) ∧ Aside0 (wc.heap[gb101]? = some (.cells #[(.slice A0_0 l0_0.length c0_0), (.slice A0_1 l0_1.length c0_1), .int .i64 a0_2, .int .i64 a0_3, .int .i64 a0_4, (.slice A0_5 l0_5.length c0_5)] 47 (0, 0))) ∧ Aside0 (wc.heap[gb102]? = some (.cells #[.int .i64 a2_0, .int .i64 a2_1, .int .i64 a2_2] 49 (0, 0))) ∧ Aside0 (Below w.heap.size w wc))
 case first =>
  have H := HC4.out
  clear HC4
  replace H := Option.bind_eq_some_iff.mp H
  obtain ⟨t103, A70, H⟩ := H
  replace H : (if t103 = true then ((spec_SettingOK.f a2_0 a2_1 a2_2).bind fun t104 => (if t104 = true then (if (l0_0.length : Int) = a1 then (if (l0_1.length : Int) = (wrap64 (a1 - 1)) then (if (l0_5.length : Int) = a2_1 then ((spec_ExtOK.f a0_2 a0_3).bind fun t105 => (if t105 = true then ((spec_l01In.f a0_4 0 65535).bind fun t106 => (spec_OpeningOK.j0 k a1 (!t106) l0_0 l0_1 a0_2 a0_3 a0_4 l0_5 a2_0 a2_1 a2_2)) else (spec_OpeningOK.j0 k a1 true l0_0 l0_1 a0_2 a0_3 a0_4 l0_5 a2_0 a2_1 a2_2))) else (spec_OpeningOK.j0 k a1 true l0_0 l0_1 a0_2 a0_3 a0_4 l0_5 a2_0 a2_1 a2_2)) else (spec_OpeningOK.j0 k a1 true l0_0 l0_1 a0_2 a0_3 a0_4 l0_5 a2_0 a2_1 a2_2)) else (spec_OpeningOK.j0 k a1 true l0_0 l0_1 a0_2 a0_3 a0_4 l0_5 a2_0 a2_1 a2_2)) else (spec_OpeningOK.j0 k a1 true l0_0 l0_1 a0_2 a0_3 a0_4 l0_5 a2_0 a2_1 a2_2))) else (spec_OpeningOK.j0 k a1 true l0_0 l0_1 a0_2 a0_3 a0_4 l0_5 a2_0 a2_1 a2_2)) = some r := H
  have A7 := am_ A70
  clear A70
  by_cases c8 : t103 = true
  ·
   subst c8
   have H1 : ((spec_SettingOK.f a2_0 a2_1 a2_2).bind fun t104 => (if t104 = true then (if (l0_0.length : Int) = a1 then (if (l0_1.length : Int) = (wrap64 (a1 - 1)) then (if (l0_5.length : Int) = a2_1 then ((spec_ExtOK.f a0_2 a0_3).bind fun t105 => (if t105 = true then ((spec_l01In.f a0_4 0 65535).bind fun t106 => (spec_OpeningOK.j0 k a1 (!t106) l0_0 l0_1 a0_2 a0_3 a0_4 l0_5 a2_0 a2_1 a2_2)) else (spec_OpeningOK.j0 k a1 true l0_0 l0_1 a0_2 a0_3 a0_4 l0_5 a2_0 a2_1 a2_2))) else (spec_OpeningOK.j0 k a1 true l0_0 l0_1 a0_2 a0_3 a0_4 l0_5 a2_0 a2_1 a2_2)) else (spec_OpeningOK.j0 k a1 true l0_0 l0_1 a0_2 a0_3 a0_4 l0_5 a2_0 a2_1 a2_2)) else (spec_OpeningOK.j0 k a1 true l0_0 l0_1 a0_2 a0_3 a0_4 l0_5 a2_0 a2_1 a2_2)) else (spec_OpeningOK.j0 k a1 true l0_0 l0_1 a0_2 a0_3 a0_4 l0_5 a2_0 a2_1 a2_2))) = some r := by rw [if_pos rfl] at H; exact H
   clear H
   have H := H1
   clear H1
   replace H := Option.bind_eq_some_iff.mp H
   obtain ⟨t104, A90, H⟩ := H
   replace H : (if t104 = true then (if (l0_0.length : Int) = a1 then (if (l0_1.length : Int) = (wrap64 (a1 - 1)) then (if (l0_5.length : Int) = a2_1 then ((spec_ExtOK.f a0_2 a0_3).bind fun t105 => (if t105 = true then ((spec_l01In.f a0_4 0 65535).bind fun t106 => (spec_OpeningOK.j0 k a1 (!t106) l0_0 l0_1 a0_2 a0_3 a0_4 l0_5 a2_0 a2_1 a2_2)) else (spec_OpeningOK.j0 k a1 true l0_0 l0_1 a0_2 a0_3 a0_4 l0_5 a2_0 a2_1 a2_2))) else (spec_OpeningOK.j0 k a1 true l0_0 l0_1 a0_2 a0_3 a0_4 l0_5 a2_0 a2_1 a2_2)) else (spec_OpeningOK.j0 k a1 true l0_0 l0_1 a0_2 a0_3 a0_4 l0_5 a2_0 a2_1 a2_2)) else (spec_OpeningOK.j0 k a1 true l0_0 l0_1 a0_2 a0_3 a0_4 l0_5 a2_0 a2_1 a2_2)) else (spec_OpeningOK.j0 k a1 true l0_0 l0_1 a0_2 a0_3 a0_4 l0_5 a2_0 a2_1 a2_2)) = some r := H
   have A9 := am_ A90
   clear A90
   by_cases c10 : t104 = true
   ·
    subst c10
    have H1 : (if (l0_0.length : Int) = a1 then (if (l0_1.length : Int) = (wrap64 (a1 - 1)) then (if (l0_5.length : Int) = a2_1 then ((spec_ExtOK.f a0_2 a0_3).bind fun t105 => (if t105 = true then ((spec_l01In.f a0_4 0 65535).bind fun t106 => (spec_OpeningOK.j0 k a1 (!t106) l0_0 l0_1 a0_2 a0_3 a0_4 l0_5 a2_0 a2_1 a2_2)) else (spec_OpeningOK.j0 k a1 true l0_0 l0_1 a0_2 a0_3 a0_4 l0_5 a2_0 a2_1 a2_2))) else (spec_OpeningOK.j0 k a1 true l0_0 l0_1 a0_2 a0_3 a0_4 l0_5 a2_0 a2_1 a2_2)) else (spec_OpeningOK.j0 k a1 true l0_0 l0_1 a0_2 a0_3 a0_4 l0_5 a2_0 a2_1 a2_2)) else (spec_OpeningOK.j0 k a1 true l0_0 l0_1 a0_2 a0_3 a0_4 l0_5 a2_0 a2_1 a2_2)) = some r := by rw [if_pos rfl] at H; exact H
    clear H
    have H := H1
    clear H1
    by_cases c11 : (l0_0.length : Int) = a1
    ·
     rw [if_pos c11] at H
     have c11b0 : ((l0_0.length : Int) == a1) = true := beq_iff_eq.mpr c11
     have c11b1 : ((l0_0.length : Int) != a1) = false := bne_eq_false_iff_eq.mpr c11
     clear c11
     (first | rw [c11b0] | (simp only [i64_w, i32_w]; rw [c11b0]) | skip)
     by_cases c12 : (l0_1.length : Int) = (wrap64 (a1 - 1))
     ·
      rw [if_pos c12] at H
      have c12b0 : ((l0_1.length : Int) == (wrap64 (a1 - 1))) = true := beq_iff_eq.mpr c12
      have c12b1 : ((l0_1.length : Int) != (wrap64 (a1 - 1))) = false := bne_eq_false_iff_eq.mpr c12
      clear c12
      by_cases c13 : (l0_5.length : Int) = a2_1
      ·
       rw [if_pos c13] at H
       have c13b0 : ((l0_5.length : Int) == a2_1) = true := beq_iff_eq.mpr c13
       have c13b1 : ((l0_5.length : Int) != a2_1) = false := bne_eq_false_iff_eq.mpr c13
       clear c13
       replace H := Option.bind_eq_some_iff.mp H
       obtain ⟨t105, A140, H⟩ := H
       replace H : (if t105 = true then ((spec_l01In.f a0_4 0 65535).bind fun t106 => (spec_OpeningOK.j0 k a1 (!t106) l0_0 l0_1 a0_2 a0_3 a0_4 l0_5 a2_0 a2_1 a2_2)) else (spec_OpeningOK.j0 k a1 true l0_0 l0_1 a0_2 a0_3 a0_4 l0_5 a2_0 a2_1 a2_2)) = some r := H
       have A14 := am_ A140
       clear A140
       by_cases c15 : t105 = true
       ·
        subst c15
        have H1 : ((spec_l01In.f a0_4 0 65535).bind fun t106 => (spec_OpeningOK.j0 k a1 (!t106) l0_0 l0_1 a0_2 a0_3 a0_4 l0_5 a2_0 a2_1 a2_2)) = some r := by rw [if_pos rfl] at H; exact H
        clear H
        have H := H1
        clear H1
        replace H := Option.bind_eq_some_iff.mp H
        obtain ⟨t106, A160, H⟩ := H
        replace H : (spec_OpeningOK.j0 k a1 (!t106) l0_0 l0_1 a0_2 a0_3 a0_4 l0_5 a2_0 a2_1 a2_2) = some r := H
        have A16 := am_ A160
        clear A160
        have H' := am_ H
        clear H
        go_wp2_with (first | (go_at_call 29; (with_reducible refine (spec_l01In.calls a1 1 6 true _ A7.out).mono ?_); rintro e w' ⟨rfl, ⟨nd, rfl⟩⟩; (try first | exact ⟨rfl, _, qd1_⟩ | exact ⟨rfl, _, qd2_⟩); have hnb17 := NB102_101.out; have hnc17 := NB101_102.out; have hcz18_0 : w6.cell? ⟨gb102, 0, none⟩ = some (.int .i64 a2_0) := (blk_cell BK102.out 0).trans rfl; have hcz18_1 : w6.cell? ⟨gb102, 1, none⟩ = some (.int .i64 a2_1) := (blk_cell BK102.out 1).trans rfl; have hcz18_2 : w6.cell? ⟨gb102, 2, none⟩ = some (.int .i64 a2_2) := (blk_cell BK102.out 2).trans rfl; have hfz18_0 := blk_frozen BK102.out 0; have hfz18_1 := blk_frozen BK102.out 1; have hfz18_2 := blk_frozen BK102.out 2) | (go_at_call 30; (with_reducible refine (spec_SettingOK.calls a2_0 a2_1 a2_2 true _ A9.out).mono ?_); rintro e w19 ⟨rfl, hb⟩; have n0_ := am_ (blk_below (g := gb101) (o := .cells #[.slice A0_0 l0_0.length c0_0, .slice A0_1 l0_1.length c0_1, .int .i64 a0_2, .int .i64 a0_3, .int .i64 a0_4, .slice A0_5 l0_5.length c0_5] 47 (0, 0)) qz7_ hb); have n1_ := am_ (blk_below (g := gb102) (o := .cells #[.int .i64 a2_0, .int .i64 a2_1, .int .i64 a2_2] 49 (0, 0)) qz8_ hb); have n2_ := am_ (below_step qz9_ hb); clear BK101; clear BK102; clear HB; have BK101 := n0_; have BK102 := n1_; have HB := n2_; clear n0_ n1_ n2_; (try clear hb); (try clear hb2); (try clear hk); (try clear hi); have hcz20_0 : w19.cell? ⟨gb101, 0, none⟩ = some (.slice A0_0 l0_0.length c0_0) := (blk_cell BK101.out 0).trans rfl; have hcz20_1 : w19.cell? ⟨gb101, 1, none⟩ = some (.slice A0_1 l0_1.length c0_1) := (blk_cell BK101.out 1).trans rfl; have hcz20_2 : w19.cell? ⟨gb101, 2, none⟩ = some (.int .i64 a0_2) := (blk_cell BK101.out 2).trans rfl; have hcz20_3 : w19.cell? ⟨gb101, 3, none⟩ = some (.int .i64 a0_3) := (blk_cell BK101.out 3).trans rfl; have hcz20_4 : w19.cell? ⟨gb101, 4, none⟩ = some (.int .i64 a0_4) := (blk_cell BK101.out 4).trans rfl; have hcz20_5 : w19.cell? ⟨gb101, 5, none⟩ = some (.slice A0_5 l0_5.length c0_5) := (blk_cell BK101.out 5).trans rfl; have hfz20_0 := blk_frozen BK101.out 0; have hfz20_1 := blk_frozen BK101.out 1; have hfz20_2 := blk_frozen BK101.out 2; have hfz20_3 := blk_frozen BK101.out 3; have hfz20_4 := blk_frozen BK101.out 4; have hfz20_5 := blk_frozen BK101.out 5; have hcz21_0 : w19.cell? ⟨gb102, 0, none⟩ = some (.int .i64 a2_0) := (blk_cell BK102.out 0).trans rfl; have hcz21_1 : w19.cell? ⟨gb102, 1, none⟩ = some (.int .i64 a2_1) := (blk_cell BK102.out 1).trans rfl; have hcz21_2 : w19.cell? ⟨gb102, 2, none⟩ = some (.int .i64 a2_2) := (blk_cell BK102.out 2).trans rfl; have hfz21_0 := blk_frozen BK102.out 0; have hfz21_1 := blk_frozen BK102.out 1; have hfz21_2 := blk_frozen BK102.out 2) | (go_at_call 31; (with_reducible refine (spec_ExtOK.calls a0_2 a0_3 true _ A14.out).mono ?_); rintro e w22 ⟨rfl, hb⟩; have n0_ := am_ (blk_below (g := gb101) (o := .cells #[.slice A0_0 l0_0.length c0_0, .slice A0_1 l0_1.length c0_1, .int .i64 a0_2, .int .i64 a0_3, .int .i64 a0_4, .slice A0_5 l0_5.length c0_5] 47 (0, 0)) qz7_ hb); have n1_ := am_ (blk_below (g := gb102) (o := .cells #[.int .i64 a2_0, .int .i64 a2_1, .int .i64 a2_2] 49 (0, 0)) qz8_ hb); have n2_ := am_ (below_step qz9_ hb); clear BK101; clear BK102; clear HB; have BK101 := n0_; have BK102 := n1_; have HB := n2_; clear n0_ n1_ n2_; (try clear hb); (try clear hb2); (try clear hk); (try clear hi); have hcz23_0 : w22.cell? ⟨gb101, 0, none⟩ = some (.slice A0_0 l0_0.length c0_0) := (blk_cell BK101.out 0).trans rfl; have hcz23_1 : w22.cell? ⟨gb101, 1, none⟩ = some (.slice A0_1 l0_1.length c0_1) := (blk_cell BK101.out 1).trans rfl; have hcz23_2 : w22.cell? ⟨gb101, 2, none⟩ = some (.int .i64 a0_2) := (blk_cell BK101.out 2).trans rfl; have hcz23_3 : w22.cell? ⟨gb101, 3, none⟩ = some (.int .i64 a0_3) := (blk_cell BK101.out 3).trans rfl; have hcz23_4 : w22.cell? ⟨gb101, 4, none⟩ = some (.int .i64 a0_4) := (blk_cell BK101.out 4).trans rfl; have hcz23_5 : w22.cell? ⟨gb101, 5, none⟩ = some (.slice A0_5 l0_5.length c0_5) := (blk_cell BK101.out 5).trans rfl; have hfz23_0 := blk_frozen BK101.out 0; have hfz23_1 := blk_frozen BK101.out 1; have hfz23_2 := blk_frozen BK101.out 2; have hfz23_3 := blk_frozen BK101.out 3; have hfz23_4 := blk_frozen BK101.out 4; have hfz23_5 := blk_frozen BK101.out 5) | (go_at_call 29; (with_reducible refine (spec_l01In.calls a0_4 0 65535 t106 _ A16.out).mono ?_); rintro e w' ⟨rfl, ⟨nd, rfl⟩⟩; (try first | exact ⟨rfl, _, qd1_⟩ | exact ⟨rfl, _, qd2_⟩)))
        repeat (go_quiet (first | (go_at_call 29; (with_reducible refine (spec_l01In.calls a1 1 6 true _ A7.out).mono ?_); rintro e w' ⟨rfl, ⟨nd, rfl⟩⟩; (try first | exact ⟨rfl, _, qd1_⟩ | exact ⟨rfl, _, qd2_⟩); have hnb17 := NB102_101.out; have hnc17 := NB101_102.out; have hcz18_0 : w6.cell? ⟨gb102, 0, none⟩ = some (.int .i64 a2_0) := (blk_cell BK102.out 0).trans rfl; have hcz18_1 : w6.cell? ⟨gb102, 1, none⟩ = some (.int .i64 a2_1) := (blk_cell BK102.out 1).trans rfl; have hcz18_2 : w6.cell? ⟨gb102, 2, none⟩ = some (.int .i64 a2_2) := (blk_cell BK102.out 2).trans rfl; have hfz18_0 := blk_frozen BK102.out 0; have hfz18_1 := blk_frozen BK102.out 1; have hfz18_2 := blk_frozen BK102.out 2) | (go_at_call 30; (with_reducible refine (spec_SettingOK.calls a2_0 a2_1 a2_2 true _ A9.out).mono ?_); rintro e w19 ⟨rfl, hb⟩; have n0_ := am_ (blk_below (g := gb101) (o := .cells #[.slice A0_0 l0_0.length c0_0, .slice A0_1 l0_1.length c0_1, .int .i64 a0_2, .int .i64 a0_3, .int .i64 a0_4, .slice A0_5 l0_5.length c0_5] 47 (0, 0)) qz7_ hb); have n1_ := am_ (blk_below (g := gb102) (o := .cells #[.int .i64 a2_0, .int .i64 a2_1, .int .i64 a2_2] 49 (0, 0)) qz8_ hb); have n2_ := am_ (below_step qz9_ hb); clear BK101; clear BK102; clear HB; have BK101 := n0_; have BK102 := n1_; have HB := n2_; clear n0_ n1_ n2_; (try clear hb); (try clear hb2); (try clear hk); (try clear hi); have hcz20_0 : w19.cell? ⟨gb101, 0, none⟩ = some (.slice A0_0 l0_0.length c0_0) := (blk_cell BK101.out 0).trans rfl; have hcz20_1 : w19.cell? ⟨gb101, 1, none⟩ = some (.slice A0_1 l0_1.length c0_1) := (blk_cell BK101.out 1).trans rfl; have hcz20_2 : w19.cell? ⟨gb101, 2, none⟩ = some (.int .i64 a0_2) := (blk_cell BK101.out 2).trans rfl; have hcz20_3 : w19.cell? ⟨gb101, 3, none⟩ = some (.int .i64 a0_3) := (blk_cell BK101.out 3).trans rfl; have hcz20_4 : w19.cell? ⟨gb101, 4, none⟩ = some (.int .i64 a0_4) := (blk_cell BK101.out 4).trans rfl; have hcz20_5 : w19.cell? ⟨gb101, 5, none⟩ = some (.slice A0_5 l0_5.length c0_5) := (blk_cell BK101.out 5).trans rfl; have hfz20_0 := blk_frozen BK101.out 0; have hfz20_1 := blk_frozen BK101.out 1; have hfz20_2 := blk_frozen BK101.out 2; have hfz20_3 := blk_frozen BK101.out 3; have hfz20_4 := blk_frozen BK101.out 4; have hfz20_5 := blk_frozen BK101.out 5; have hcz21_0 : w19.cell? ⟨gb102, 0, none⟩ = some (.int .i64 a2_0) := (blk_cell BK102.out 0).trans rfl; have hcz21_1 : w19.cell? ⟨gb102, 1, none⟩ = some (.int .i64 a2_1) := (blk_cell BK102.out 1).trans rfl; have hcz21_2 : w19.cell? ⟨gb102, 2, none⟩ = some (.int .i64 a2_2) := (blk_cell BK102.out 2).trans rfl; have hfz21_0 := blk_frozen BK102.out 0; have hfz21_1 := blk_frozen BK102.out 1; have hfz21_2 := blk_frozen BK102.out 2) | (go_at_call 31; (with_reducible refine (spec_ExtOK.calls a0_2 a0_3 true _ A14.out).mono ?_); rintro e w22 ⟨rfl, hb⟩; have n0_ := am_ (blk_below (g := gb101) (o := .cells #[.slice A0_0 l0_0.length c0_0, .slice A0_1 l0_1.length c0_1, .int .i64 a0_2, .int .i64 a0_3, .int .i64 a0_4, .slice A0_5 l0_5.length c0_5] 47 (0, 0)) qz7_ hb); have n1_ := am_ (blk_below (g := gb102) (o := .cells #[.int .i64 a2_0, .int .i64 a2_1, .int .i64 a2_2] 49 (0, 0)) qz8_ hb); have n2_ := am_ (below_step qz9_ hb); clear BK101; clear BK102; clear HB; have BK101 := n0_; have BK102 := n1_; have HB := n2_; clear n0_ n1_ n2_; (try clear hb); (try clear hb2); (try clear hk); (try clear hi); have hcz23_0 : w22.cell? ⟨gb101, 0, none⟩ = some (.slice A0_0 l0_0.length c0_0) := (blk_cell BK101.out 0).trans rfl; have hcz23_1 : w22.cell? ⟨gb101, 1, none⟩ = some (.slice A0_1 l0_1.length c0_1) := (blk_cell BK101.out 1).trans rfl; have hcz23_2 : w22.cell? ⟨gb101, 2, none⟩ = some (.int .i64 a0_2) := (blk_cell BK101.out 2).trans rfl; have hcz23_3 : w22.cell? ⟨gb101, 3, none⟩ = some (.int .i64 a0_3) := (blk_cell BK101.out 3).trans rfl; have hcz23_4 : w22.cell? ⟨gb101, 4, none⟩ = some (.int .i64 a0_4) := (blk_cell BK101.out 4).trans rfl; have hcz23_5 : w22.cell? ⟨gb101, 5, none⟩ = some (.slice A0_5 l0_5.length c0_5) := (blk_cell BK101.out 5).trans rfl; have hfz23_0 := blk_frozen BK101.out 0; have hfz23_1 := blk_frozen BK101.out 1; have hfz23_2 := blk_frozen BK101.out 2; have hfz23_3 := blk_frozen BK101.out 3; have hfz23_4 := blk_frozen BK101.out 4; have hfz23_5 := blk_frozen BK101.out 5) | (go_at_call 29; (with_reducible refine (spec_l01In.calls a0_4 0 65535 t106 _ A16.out).mono ?_); rintro e w' ⟨rfl, ⟨nd, rfl⟩⟩; (try first | exact ⟨rfl, _, qd1_⟩ | exact ⟨rfl, _, qd2_⟩))); try go_wp2_with (first | (go_at_call 29; (with_reducible refine (spec_l01In.calls a1 1 6 true _ A7.out).mono ?_); rintro e w' ⟨rfl, ⟨nd, rfl⟩⟩; (try first | exact ⟨rfl, _, qd1_⟩ | exact ⟨rfl, _, qd2_⟩); have hnb17 := NB102_101.out; have hnc17 := NB101_102.out; have hcz18_0 : w6.cell? ⟨gb102, 0, none⟩ = some (.int .i64 a2_0) := (blk_cell BK102.out 0).trans rfl; have hcz18_1 : w6.cell? ⟨gb102, 1, none⟩ = some (.int .i64 a2_1) := (blk_cell BK102.out 1).trans rfl; have hcz18_2 : w6.cell? ⟨gb102, 2, none⟩ = some (.int .i64 a2_2) := (blk_cell BK102.out 2).trans rfl; have hfz18_0 := blk_frozen BK102.out 0; have hfz18_1 := blk_frozen BK102.out 1; have hfz18_2 := blk_frozen BK102.out 2) | (go_at_call 30; (with_reducible refine (spec_SettingOK.calls a2_0 a2_1 a2_2 true _ A9.out).mono ?_); rintro e w19 ⟨rfl, hb⟩; have n0_ := am_ (blk_below (g := gb101) (o := .cells #[.slice A0_0 l0_0.length c0_0, .slice A0_1 l0_1.length c0_1, .int .i64 a0_2, .int .i64 a0_3, .int .i64 a0_4, .slice A0_5 l0_5.length c0_5] 47 (0, 0)) qz7_ hb); have n1_ := am_ (blk_below (g := gb102) (o := .cells #[.int .i64 a2_0, .int .i64 a2_1, .int .i64 a2_2] 49 (0, 0)) qz8_ hb); have n2_ := am_ (below_step qz9_ hb); clear BK101; clear BK102; clear HB; have BK101 := n0_; have BK102 := n1_; have HB := n2_; clear n0_ n1_ n2_; (try clear hb); (try clear hb2); (try clear hk); (try clear hi); have hcz20_0 : w19.cell? ⟨gb101, 0, none⟩ = some (.slice A0_0 l0_0.length c0_0) := (blk_cell BK101.out 0).trans rfl; have hcz20_1 : w19.cell? ⟨gb101, 1, none⟩ = some (.slice A0_1 l0_1.length c0_1) := (blk_cell BK101.out 1).trans rfl; have hcz20_2 : w19.cell? ⟨gb101, 2, none⟩ = some (.int .i64 a0_2) := (blk_cell BK101.out 2).trans rfl; have hcz20_3 : w19.cell? ⟨gb101, 3, none⟩ = some (.int .i64 a0_3) := (blk_cell BK101.out 3).trans rfl; have hcz20_4 : w19.cell? ⟨gb101, 4, none⟩ = some (.int .i64 a0_4) := (blk_cell BK101.out 4).trans rfl; have hcz20_5 : w19.cell? ⟨gb101, 5, none⟩ = some (.slice A0_5 l0_5.length c0_5) := (blk_cell BK101.out 5).trans rfl; have hfz20_0 := blk_frozen BK101.out 0; have hfz20_1 := blk_frozen BK101.out 1; have hfz20_2 := blk_frozen BK101.out 2; have hfz20_3 := blk_frozen BK101.out 3; have hfz20_4 := blk_frozen BK101.out 4; have hfz20_5 := blk_frozen BK101.out 5; have hcz21_0 : w19.cell? ⟨gb102, 0, none⟩ = some (.int .i64 a2_0) := (blk_cell BK102.out 0).trans rfl; have hcz21_1 : w19.cell? ⟨gb102, 1, none⟩ = some (.int .i64 a2_1) := (blk_cell BK102.out 1).trans rfl; have hcz21_2 : w19.cell? ⟨gb102, 2, none⟩ = some (.int .i64 a2_2) := (blk_cell BK102.out 2).trans rfl; have hfz21_0 := blk_frozen BK102.out 0; have hfz21_1 := blk_frozen BK102.out 1; have hfz21_2 := blk_frozen BK102.out 2) | (go_at_call 31; (with_reducible refine (spec_ExtOK.calls a0_2 a0_3 true _ A14.out).mono ?_); rintro e w22 ⟨rfl, hb⟩; have n0_ := am_ (blk_below (g := gb101) (o := .cells #[.slice A0_0 l0_0.length c0_0, .slice A0_1 l0_1.length c0_1, .int .i64 a0_2, .int .i64 a0_3, .int .i64 a0_4, .slice A0_5 l0_5.length c0_5] 47 (0, 0)) qz7_ hb); have n1_ := am_ (blk_below (g := gb102) (o := .cells #[.int .i64 a2_0, .int .i64 a2_1, .int .i64 a2_2] 49 (0, 0)) qz8_ hb); have n2_ := am_ (below_step qz9_ hb); clear BK101; clear BK102; clear HB; have BK101 := n0_; have BK102 := n1_; have HB := n2_; clear n0_ n1_ n2_; (try clear hb); (try clear hb2); (try clear hk); (try clear hi); have hcz23_0 : w22.cell? ⟨gb101, 0, none⟩ = some (.slice A0_0 l0_0.length c0_0) := (blk_cell BK101.out 0).trans rfl; have hcz23_1 : w22.cell? ⟨gb101, 1, none⟩ = some (.slice A0_1 l0_1.length c0_1) := (blk_cell BK101.out 1).trans rfl; have hcz23_2 : w22.cell? ⟨gb101, 2, none⟩ = some (.int .i64 a0_2) := (blk_cell BK101.out 2).trans rfl; have hcz23_3 : w22.cell? ⟨gb101, 3, none⟩ = some (.int .i64 a0_3) := (blk_cell BK101.out 3).trans rfl; have hcz23_4 : w22.cell? ⟨gb101, 4, none⟩ = some (.int .i64 a0_4) := (blk_cell BK101.out 4).trans rfl; have hcz23_5 : w22.cell? ⟨gb101, 5, none⟩ = some (.slice A0_5 l0_5.length c0_5) := (blk_cell BK101.out 5).trans rfl; have hfz23_0 := blk_frozen BK101.out 0; have hfz23_1 := blk_frozen BK101.out 1; have hfz23_2 := blk_frozen BK101.out 2; have hfz23_3 := blk_frozen BK101.out 3; have hfz23_4 := blk_frozen BK101.out 4; have hfz23_5 := blk_frozen BK101.out 5) | (go_at_call 29; (with_reducible refine (spec_l01In.calls a0_4 0 65535 t106 _ A16.out).mono ?_); rintro e w' ⟨rfl, ⟨nd, rfl⟩⟩; (try first | exact ⟨rfl, _, qd1_⟩ | exact ⟨rfl, _, qd2_⟩))))
        go_meet
        case rel => exact ⟨_, (!t106), qz0_, H', ⟨(by first | omega | exact Nat.le_refl _)⟩, ⟨qz7_⟩, ⟨qz8_⟩, ⟨qz9_⟩⟩
       ·
        replace c15 := Bool.eq_false_iff.mpr c15
        subst c15
        have H1 : (spec_OpeningOK.j0 k a1 true l0_0 l0_1 a0_2 a0_3 a0_4 l0_5 a2_0 a2_1 a2_2) = some r := by rw [if_neg (show ¬ (false = true) by decide)] at H; exact H
        clear H
        have H := H1
        clear H1
        have H' := am_ H
        clear H
        go_wp2_with (first | (go_at_call 29; (with_reducible refine (spec_l01In.calls a1 1 6 true _ A7.out).mono ?_); rintro e w' ⟨rfl, ⟨nd, rfl⟩⟩; (try first | exact ⟨rfl, _, qd1_⟩ | exact ⟨rfl, _, qd2_⟩); have hnb24 := NB102_101.out; have hnc24 := NB101_102.out; have hcz25_0 : w6.cell? ⟨gb102, 0, none⟩ = some (.int .i64 a2_0) := (blk_cell BK102.out 0).trans rfl; have hcz25_1 : w6.cell? ⟨gb102, 1, none⟩ = some (.int .i64 a2_1) := (blk_cell BK102.out 1).trans rfl; have hcz25_2 : w6.cell? ⟨gb102, 2, none⟩ = some (.int .i64 a2_2) := (blk_cell BK102.out 2).trans rfl; have hfz25_0 := blk_frozen BK102.out 0; have hfz25_1 := blk_frozen BK102.out 1; have hfz25_2 := blk_frozen BK102.out 2) | (go_at_call 30; (with_reducible refine (spec_SettingOK.calls a2_0 a2_1 a2_2 true _ A9.out).mono ?_); rintro e w26 ⟨rfl, hb⟩; have n0_ := am_ (blk_below (g := gb101) (o := .cells #[.slice A0_0 l0_0.length c0_0, .slice A0_1 l0_1.length c0_1, .int .i64 a0_2, .int .i64 a0_3, .int .i64 a0_4, .slice A0_5 l0_5.length c0_5] 47 (0, 0)) qz7_ hb); have n1_ := am_ (blk_below (g := gb102) (o := .cells #[.int .i64 a2_0, .int .i64 a2_1, .int .i64 a2_2] 49 (0, 0)) qz8_ hb); have n2_ := am_ (below_step qz9_ hb); clear BK101; clear BK102; clear HB; have BK101 := n0_; have BK102 := n1_; have HB := n2_; clear n0_ n1_ n2_; (try clear hb); (try clear hb2); (try clear hk); (try clear hi); have hcz27_0 : w26.cell? ⟨gb101, 0, none⟩ = some (.slice A0_0 l0_0.length c0_0) := (blk_cell BK101.out 0).trans rfl; have hcz27_1 : w26.cell? ⟨gb101, 1, none⟩ = some (.slice A0_1 l0_1.length c0_1) := (blk_cell BK101.out 1).trans rfl; have hcz27_2 : w26.cell? ⟨gb101, 2, none⟩ = some (.int .i64 a0_2) := (blk_cell BK101.out 2).trans rfl; have hcz27_3 : w26.cell? ⟨gb101, 3, none⟩ = some (.int .i64 a0_3) := (blk_cell BK101.out 3).trans rfl; have hcz27_4 : w26.cell? ⟨gb101, 4, none⟩ = some (.int .i64 a0_4) := (blk_cell BK101.out 4).trans rfl; have hcz27_5 : w26.cell? ⟨gb101, 5, none⟩ = some (.slice A0_5 l0_5.length c0_5) := (blk_cell BK101.out 5).trans rfl; have hfz27_0 := blk_frozen BK101.out 0; have hfz27_1 := blk_frozen BK101.out 1; have hfz27_2 := blk_frozen BK101.out 2; have hfz27_3 := blk_frozen BK101.out 3; have hfz27_4 := blk_frozen BK101.out 4; have hfz27_5 := blk_frozen BK101.out 5; have hcz28_0 : w26.cell? ⟨gb102, 0, none⟩ = some (.int .i64 a2_0) := (blk_cell BK102.out 0).trans rfl; have hcz28_1 : w26.cell? ⟨gb102, 1, none⟩ = some (.int .i64 a2_1) := (blk_cell BK102.out 1).trans rfl; have hcz28_2 : w26.cell? ⟨gb102, 2, none⟩ = some (.int .i64 a2_2) := (blk_cell BK102.out 2).trans rfl; have hfz28_0 := blk_frozen BK102.out 0; have hfz28_1 := blk_frozen BK102.out 1; have hfz28_2 := blk_frozen BK102.out 2) | (go_at_call 31; (with_reducible refine (spec_ExtOK.calls a0_2 a0_3 false _ A14.out).mono ?_); rintro e w29 ⟨rfl, hb⟩; have n0_ := am_ (blk_below (g := gb101) (o := .cells #[.slice A0_0 l0_0.length c0_0, .slice A0_1 l0_1.length c0_1, .int .i64 a0_2, .int .i64 a0_3, .int .i64 a0_4, .slice A0_5 l0_5.length c0_5] 47 (0, 0)) qz7_ hb); have n1_ := am_ (blk_below (g := gb102) (o := .cells #[.int .i64 a2_0, .int .i64 a2_1, .int .i64 a2_2] 49 (0, 0)) qz8_ hb); have n2_ := am_ (below_step qz9_ hb); clear BK101; clear BK102; clear HB; have BK101 := n0_; have BK102 := n1_; have HB := n2_; clear n0_ n1_ n2_; (try clear hb); (try clear hb2); (try clear hk); (try clear hi)))
        repeat (go_quiet (first | (go_at_call 29; (with_reducible refine (spec_l01In.calls a1 1 6 true _ A7.out).mono ?_); rintro e w' ⟨rfl, ⟨nd, rfl⟩⟩; (try first | exact ⟨rfl, _, qd1_⟩ | exact ⟨rfl, _, qd2_⟩); have hnb24 := NB102_101.out; have hnc24 := NB101_102.out; have hcz25_0 : w6.cell? ⟨gb102, 0, none⟩ = some (.int .i64 a2_0) := (blk_cell BK102.out 0).trans rfl; have hcz25_1 : w6.cell? ⟨gb102, 1, none⟩ = some (.int .i64 a2_1) := (blk_cell BK102.out 1).trans rfl; have hcz25_2 : w6.cell? ⟨gb102, 2, none⟩ = some (.int .i64 a2_2) := (blk_cell BK102.out 2).trans rfl; have hfz25_0 := blk_frozen BK102.out 0; have hfz25_1 := blk_frozen BK102.out 1; have hfz25_2 := blk_frozen BK102.out 2) | (go_at_call 30; (with_reducible refine (spec_SettingOK.calls a2_0 a2_1 a2_2 true _ A9.out).mono ?_); rintro e w26 ⟨rfl, hb⟩; have n0_ := am_ (blk_below (g := gb101) (o := .cells #[.slice A0_0 l0_0.length c0_0, .slice A0_1 l0_1.length c0_1, .int .i64 a0_2, .int .i64 a0_3, .int .i64 a0_4, .slice A0_5 l0_5.length c0_5] 47 (0, 0)) qz7_ hb); have n1_ := am_ (blk_below (g := gb102) (o := .cells #[.int .i64 a2_0, .int .i64 a2_1, .int .i64 a2_2] 49 (0, 0)) qz8_ hb); have n2_ := am_ (below_step qz9_ hb); clear BK101; clear BK102; clear HB; have BK101 := n0_; have BK102 := n1_; have HB := n2_; clear n0_ n1_ n2_; (try clear hb); (try clear hb2); (try clear hk); (try clear hi); have hcz27_0 : w26.cell? ⟨gb101, 0, none⟩ = some (.slice A0_0 l0_0.length c0_0) := (blk_cell BK101.out 0).trans rfl; have hcz27_1 : w26.cell? ⟨gb101, 1, none⟩ = some (.slice A0_1 l0_1.length c0_1) := (blk_cell BK101.out 1).trans rfl; have hcz27_2 : w26.cell? ⟨gb101, 2, none⟩ = some (.int .i64 a0_2) := (blk_cell BK101.out 2).trans rfl; have hcz27_3 : w26.cell? ⟨gb101, 3, none⟩ = some (.int .i64 a0_3) := (blk_cell BK101.out 3).trans rfl; have hcz27_4 : w26.cell? ⟨gb101, 4, none⟩ = some (.int .i64 a0_4) := (blk_cell BK101.out 4).trans rfl; have hcz27_5 : w26.cell? ⟨gb101, 5, none⟩ = some (.slice A0_5 l0_5.length c0_5) := (blk_cell BK101.out 5).trans rfl; have hfz27_0 := blk_frozen BK101.out 0; have hfz27_1 := blk_frozen BK101.out 1; have hfz27_2 := blk_frozen BK101.out 2; have hfz27_3 := blk_frozen BK101.out 3; have hfz27_4 := blk_frozen BK101.out 4; have hfz27_5 := blk_frozen BK101.out 5; have hcz28_0 : w26.cell? ⟨gb102, 0, none⟩ = some (.int .i64 a2_0) := (blk_cell BK102.out 0).trans rfl; have hcz28_1 : w26.cell? ⟨gb102, 1, none⟩ = some (.int .i64 a2_1) := (blk_cell BK102.out 1).trans rfl; have hcz28_2 : w26.cell? ⟨gb102, 2, none⟩ = some (.int .i64 a2_2) := (blk_cell BK102.out 2).trans rfl; have hfz28_0 := blk_frozen BK102.out 0; have hfz28_1 := blk_frozen BK102.out 1; have hfz28_2 := blk_frozen BK102.out 2) | (go_at_call 31; (with_reducible refine (spec_ExtOK.calls a0_2 a0_3 false _ A14.out).mono ?_); rintro e w29 ⟨rfl, hb⟩; have n0_ := am_ (blk_below (g := gb101) (o := .cells #[.slice A0_0 l0_0.length c0_0, .slice A0_1 l0_1.length c0_1, .int .i64 a0_2, .int .i64 a0_3, .int .i64 a0_4, .slice A0_5 l0_5.length c0_5] 47 (0, 0)) qz7_ hb); have n1_ := am_ (blk_below (g := gb102) (o := .cells #[.int .i64 a2_0, .int .i64 a2_1, .int .i64 a2_2] 49 (0, 0)) qz8_ hb); have n2_ := am_ (below_step qz9_ hb); clear BK101; clear BK102; clear HB; have BK101 := n0_; have BK102 := n1_; have HB := n2_; clear n0_ n1_ n2_; (try clear hb); (try clear hb2); (try clear hk); (try clear hi))); try go_wp2_with (first | (go_at_call 29; (with_reducible refine (spec_l01In.calls a1 1 6 true _ A7.out).mono ?_); rintro e w' ⟨rfl, ⟨nd, rfl⟩⟩; (try first | exact ⟨rfl, _, qd1_⟩ | exact ⟨rfl, _, qd2_⟩); have hnb24 := NB102_101.out; have hnc24 := NB101_102.out; have hcz25_0 : w6.cell? ⟨gb102, 0, none⟩ = some (.int .i64 a2_0) := (blk_cell BK102.out 0).trans rfl; have hcz25_1 : w6.cell? ⟨gb102, 1, none⟩ = some (.int .i64 a2_1) := (blk_cell BK102.out 1).trans rfl; have hcz25_2 : w6.cell? ⟨gb102, 2, none⟩ = some (.int .i64 a2_2) := (blk_cell BK102.out 2).trans rfl; have hfz25_0 := blk_frozen BK102.out 0; have hfz25_1 := blk_frozen BK102.out 1; have hfz25_2 := blk_frozen BK102.out 2) | (go_at_call 30; (with_reducible refine (spec_SettingOK.calls a2_0 a2_1 a2_2 true _ A9.out).mono ?_); rintro e w26 ⟨rfl, hb⟩; have n0_ := am_ (blk_below (g := gb101) (o := .cells #[.slice A0_0 l0_0.length c0_0, .slice A0_1 l0_1.length c0_1, .int .i64 a0_2, .int .i64 a0_3, .int .i64 a0_4, .slice A0_5 l0_5.length c0_5] 47 (0, 0)) qz7_ hb); have n1_ := am_ (blk_below (g := gb102) (o := .cells #[.int .i64 a2_0, .int .i64 a2_1, .int .i64 a2_2] 49 (0, 0)) qz8_ hb); have n2_ := am_ (below_step qz9_ hb); clear BK101; clear BK102; clear HB; have BK101 := n0_; have BK102 := n1_; have HB := n2_; clear n0_ n1_ n2_; (try clear hb); (try clear hb2); (try clear hk); (try clear hi); have hcz27_0 : w26.cell? ⟨gb101, 0, none⟩ = some (.slice A0_0 l0_0.length c0_0) := (blk_cell BK101.out 0).trans rfl; have hcz27_1 : w26.cell? ⟨gb101, 1, none⟩ = some (.slice A0_1 l0_1.length c0_1) := (blk_cell BK101.out 1).trans rfl; have hcz27_2 : w26.cell? ⟨gb101, 2, none⟩ = some (.int .i64 a0_2) := (blk_cell BK101.out 2).trans rfl; have hcz27_3 : w26.cell? ⟨gb101, 3, none⟩ = some (.int .i64 a0_3) := (blk_cell BK101.out 3).trans rfl; have hcz27_4 : w26.cell? ⟨gb101, 4, none⟩ = some (.int .i64 a0_4) := (blk_cell BK101.out 4).trans rfl; have hcz27_5 : w26.cell? ⟨gb101, 5, none⟩ = some (.slice A0_5 l0_5.length c0_5) := (blk_cell BK101.out 5).trans rfl; have hfz27_0 := blk_frozen BK101.out 0; have hfz27_1 := blk_frozen BK101.out 1; have hfz27_2 := blk_frozen BK101.out 2; have hfz27_3 := blk_frozen BK101.out 3; have hfz27_4 := blk_frozen BK101.out 4; have hfz27_5 := blk_frozen BK101.out 5; have hcz28_0 : w26.cell? ⟨gb102, 0, none⟩ = some (.int .i64 a2_0) := (blk_cell BK102.out 0).trans rfl; have hcz28_1 : w26.cell? ⟨gb102, 1, none⟩ = some (.int .i64 a2_1) := (blk_cell BK102.out 1).trans rfl; have hcz28_2 : w26.cell? ⟨gb102, 2, none⟩ = some (.int .i64 a2_2) := (blk_cell BK102.out 2).trans rfl; have hfz28_0 := blk_frozen BK102.out 0; have hfz28_1 := blk_frozen BK102.out 1; have hfz28_2 := blk_frozen BK102.out 2) | (go_at_call 31; (with_reducible refine (spec_ExtOK.calls a0_2 a0_3 false _ A14.out).mono ?_); rintro e w29 ⟨rfl, hb⟩; have n0_ := am_ (blk_below (g := gb101) (o := .cells #[.slice A0_0 l0_0.length c0_0, .slice A0_1 l0_1.length c0_1, .int .i64 a0_2, .int .i64 a0_3, .int .i64 a0_4, .slice A0_5 l0_5.length c0_5] 47 (0, 0)) qz7_ hb); have n1_ := am_ (blk_below (g := gb102) (o := .cells #[.int .i64 a2_0, .int .i64 a2_1, .int .i64 a2_2] 49 (0, 0)) qz8_ hb); have n2_ := am_ (below_step qz9_ hb); clear BK101; clear BK102; clear HB; have BK101 := n0_; have BK102 := n1_; have HB := n2_; clear n0_ n1_ n2_; (try clear hb); (try clear hb2); (try clear hk); (try clear hi))))
        go_meet
        case rel => exact ⟨_, (true), qz0_, H', ⟨(by first | omega | exact Nat.le_refl _)⟩, ⟨qz7_⟩, ⟨qz8_⟩, ⟨qz9_⟩⟩
      ·
       rw [if_neg c13] at H
       have c13b0 : ((l0_5.length : Int) == a2_1) = false := beq_eq_false_iff_ne.mpr c13
       have c13b1 : ((l0_5.length : Int) != a2_1) = true := bne_iff_ne.mpr c13
       have H' := am_ H
       clear H
       go_wp2_with (first | (go_at_call 29; (with_reducible refine (spec_l01In.calls a1 1 6 true _ A7.out).mono ?_); rintro e w' ⟨rfl, ⟨nd, rfl⟩⟩; (try first | exact ⟨rfl, _, qd1_⟩ | exact ⟨rfl, _, qd2_⟩); have hnb30 := NB102_101.out; have hnc30 := NB101_102.out; have hcz31_0 : w6.cell? ⟨gb102, 0, none⟩ = some (.int .i64 a2_0) := (blk_cell BK102.out 0).trans rfl; have hcz31_1 : w6.cell? ⟨gb102, 1, none⟩ = some (.int .i64 a2_1) := (blk_cell BK102.out 1).trans rfl; have hcz31_2 : w6.cell? ⟨gb102, 2, none⟩ = some (.int .i64 a2_2) := (blk_cell BK102.out 2).trans rfl; have hfz31_0 := blk_frozen BK102.out 0; have hfz31_1 := blk_frozen BK102.out 1; have hfz31_2 := blk_frozen BK102.out 2) | (go_at_call 30; (with_reducible refine (spec_SettingOK.calls a2_0 a2_1 a2_2 true _ A9.out).mono ?_); rintro e w32 ⟨rfl, hb⟩; have n0_ := am_ (blk_below (g := gb101) (o := .cells #[.slice A0_0 l0_0.length c0_0, .slice A0_1 l0_1.length c0_1, .int .i64 a0_2, .int .i64 a0_3, .int .i64 a0_4, .slice A0_5 l0_5.length c0_5] 47 (0, 0)) qz7_ hb); have n1_ := am_ (blk_below (g := gb102) (o := .cells #[.int .i64 a2_0, .int .i64 a2_1, .int .i64 a2_2] 49 (0, 0)) qz8_ hb); have n2_ := am_ (below_step qz9_ hb); clear BK101; clear BK102; clear HB; have BK101 := n0_; have BK102 := n1_; have HB := n2_; clear n0_ n1_ n2_; (try clear hb); (try clear hb2); (try clear hk); (try clear hi); have hcz33_0 : w32.cell? ⟨gb101, 0, none⟩ = some (.slice A0_0 l0_0.length c0_0) := (blk_cell BK101.out 0).trans rfl; have hcz33_1 : w32.cell? ⟨gb101, 1, none⟩ = some (.slice A0_1 l0_1.length c0_1) := (blk_cell BK101.out 1).trans rfl; have hcz33_2 : w32.cell? ⟨gb101, 2, none⟩ = some (.int .i64 a0_2) := (blk_cell BK101.out 2).trans rfl; have hcz33_3 : w32.cell? ⟨gb101, 3, none⟩ = some (.int .i64 a0_3) := (blk_cell BK101.out 3).trans rfl; have hcz33_4 : w32.cell? ⟨gb101, 4, none⟩ = some (.int .i64 a0_4) := (blk_cell BK101.out 4).trans rfl; have hcz33_5 : w32.cell? ⟨gb101, 5, none⟩ = some (.slice A0_5 l0_5.length c0_5) := (blk_cell BK101.out 5).trans rfl; have hfz33_0 := blk_frozen BK101.out 0; have hfz33_1 := blk_frozen BK101.out 1; have hfz33_2 := blk_frozen BK101.out 2; have hfz33_3 := blk_frozen BK101.out 3; have hfz33_4 := blk_frozen BK101.out 4; have hfz33_5 := blk_frozen BK101.out 5; have hcz34_0 : w32.cell? ⟨gb102, 0, none⟩ = some (.int .i64 a2_0) := (blk_cell BK102.out 0).trans rfl; have hcz34_1 : w32.cell? ⟨gb102, 1, none⟩ = some (.int .i64 a2_1) := (blk_cell BK102.out 1).trans rfl; have hcz34_2 : w32.cell? ⟨gb102, 2, none⟩ = some (.int .i64 a2_2) := (blk_cell BK102.out 2).trans rfl; have hfz34_0 := blk_frozen BK102.out 0; have hfz34_1 := blk_frozen BK102.out 1; have hfz34_2 := blk_frozen BK102.out 2))
       repeat (go_quiet (first | (go_at_call 29; (with_reducible refine (spec_l01In.calls a1 1 6 true _ A7.out).mono ?_); rintro e w' ⟨rfl, ⟨nd, rfl⟩⟩; (try first | exact ⟨rfl, _, qd1_⟩ | exact ⟨rfl, _, qd2_⟩); have hnb30 := NB102_101.out; have hnc30 := NB101_102.out; have hcz31_0 : w6.cell? ⟨gb102, 0, none⟩ = some (.int .i64 a2_0) := (blk_cell BK102.out 0).trans rfl; have hcz31_1 : w6.cell? ⟨gb102, 1, none⟩ = some (.int .i64 a2_1) := (blk_cell BK102.out 1).trans rfl; have hcz31_2 : w6.cell? ⟨gb102, 2, none⟩ = some (.int .i64 a2_2) := (blk_cell BK102.out 2).trans rfl; have hfz31_0 := blk_frozen BK102.out 0; have hfz31_1 := blk_frozen BK102.out 1; have hfz31_2 := blk_frozen BK102.out 2) | (go_at_call 30; (with_reducible refine (spec_SettingOK.calls a2_0 a2_1 a2_2 true _ A9.out).mono ?_); rintro e w32 ⟨rfl, hb⟩; have n0_ := am_ (blk_below (g := gb101) (o := .cells #[.slice A0_0 l0_0.length c0_0, .slice A0_1 l0_1.length c0_1, .int .i64 a0_2, .int .i64 a0_3, .int .i64 a0_4, .slice A0_5 l0_5.length c0_5] 47 (0, 0)) qz7_ hb); have n1_ := am_ (blk_below (g := gb102) (o := .cells #[.int .i64 a2_0, .int .i64 a2_1, .int .i64 a2_2] 49 (0, 0)) qz8_ hb); have n2_ := am_ (below_step qz9_ hb); clear BK101; clear BK102; clear HB; have BK101 := n0_; have BK102 := n1_; have HB := n2_; clear n0_ n1_ n2_; (try clear hb); (try clear hb2); (try clear hk); (try clear hi); have hcz33_0 : w32.cell? ⟨gb101, 0, none⟩ = some (.slice A0_0 l0_0.length c0_0) := (blk_cell BK101.out 0).trans rfl; have hcz33_1 : w32.cell? ⟨gb101, 1, none⟩ = some (.slice A0_1 l0_1.length c0_1) := (blk_cell BK101.out 1).trans rfl; have hcz33_2 : w32.cell? ⟨gb101, 2, none⟩ = some (.int .i64 a0_2) := (blk_cell BK101.out 2).trans rfl; have hcz33_3 : w32.cell? ⟨gb101, 3, none⟩ = some (.int .i64 a0_3) := (blk_cell BK101.out 3).trans rfl; have hcz33_4 : w32.cell? ⟨gb101, 4, none⟩ = some (.int .i64 a0_4) := (blk_cell BK101.out 4).trans rfl; have hcz33_5 : w32.cell? ⟨gb101, 5, none⟩ = some (.slice A0_5 l0_5.length c0_5) := (blk_cell BK101.out 5).trans rfl; have hfz33_0 := blk_frozen BK101.out 0; have hfz33_1 := blk_frozen BK101.out 1; have hfz33_2 := blk_frozen BK101.out 2; have hfz33_3 := blk_frozen BK101.out 3; have hfz33_4 := blk_frozen BK101.out 4; have hfz33_5 := blk_frozen BK101.out 5; have hcz34_0 : w32.cell? ⟨gb102, 0, none⟩ = some (.int .i64 a2_0) := (blk_cell BK102.out 0).trans rfl; have hcz34_1 : w32.cell? ⟨gb102, 1, none⟩ = some (.int .i64 a2_1) := (blk_cell BK102.out 1).trans rfl; have hcz34_2 : w32.cell? ⟨gb102, 2, none⟩ = some (.int .i64 a2_2) := (blk_cell BK102.out 2).trans rfl; have hfz34_0 := blk_frozen BK102.out 0; have hfz34_1 := blk_frozen BK102.out 1; have hfz34_2 := blk_frozen BK102.out 2)); try go_wp2_with (first | (go_at_call 29; (with_reducible refine (spec_l01In.calls a1 1 6 true _ A7.out).mono ?_); rintro e w' ⟨rfl, ⟨nd, rfl⟩⟩; (try first | exact ⟨rfl, _, qd1_⟩ | exact ⟨rfl, _, qd2_⟩); have hnb30 := NB102_101.out; have hnc30 := NB101_102.out; have hcz31_0 : w6.cell? ⟨gb102, 0, none⟩ = some (.int .i64 a2_0) := (blk_cell BK102.out 0).trans rfl; have hcz31_1 : w6.cell? ⟨gb102, 1, none⟩ = some (.int .i64 a2_1) := (blk_cell BK102.out 1).trans rfl; have hcz31_2 : w6.cell? ⟨gb102, 2, none⟩ = some (.int .i64 a2_2) := (blk_cell BK102.out 2).trans rfl; have hfz31_0 := blk_frozen BK102.out 0; have hfz31_1 := blk_frozen BK102.out 1; have hfz31_2 := blk_frozen BK102.out 2) | (go_at_call 30; (with_reducible refine (spec_SettingOK.calls a2_0 a2_1 a2_2 true _ A9.out).mono ?_); rintro e w32 ⟨rfl, hb⟩; have n0_ := am_ (blk_below (g := gb101) (o := .cells #[.slice A0_0 l0_0.length c0_0, .slice A0_1 l0_1.length c0_1, .int .i64 a0_2, .int .i64 a0_3, .int .i64 a0_4, .slice A0_5 l0_5.length c0_5] 47 (0, 0)) qz7_ hb); have n1_ := am_ (blk_below (g := gb102) (o := .cells #[.int .i64 a2_0, .int .i64 a2_1, .int .i64 a2_2] 49 (0, 0)) qz8_ hb); have n2_ := am_ (below_step qz9_ hb); clear BK101; clear BK102; clear HB; have BK101 := n0_; have BK102 := n1_; have HB := n2_; clear n0_ n1_ n2_; (try clear hb); (try clear hb2); (try clear hk); (try clear hi); have hcz33_0 : w32.cell? ⟨gb101, 0, none⟩ = some (.slice A0_0 l0_0.length c0_0) := (blk_cell BK101.out 0).trans rfl; have hcz33_1 : w32.cell? ⟨gb101, 1, none⟩ = some (.slice A0_1 l0_1.length c0_1) := (blk_cell BK101.out 1).trans rfl; have hcz33_2 : w32.cell? ⟨gb101, 2, none⟩ = some (.int .i64 a0_2) := (blk_cell BK101.out 2).trans rfl; have hcz33_3 : w32.cell? ⟨gb101, 3, none⟩ = some (.int .i64 a0_3) := (blk_cell BK101.out 3).trans rfl; have hcz33_4 : w32.cell? ⟨gb101, 4, none⟩ = some (.int .i64 a0_4) := (blk_cell BK101.out 4).trans rfl; have hcz33_5 : w32.cell? ⟨gb101, 5, none⟩ = some (.slice A0_5 l0_5.length c0_5) := (blk_cell BK101.out 5).trans rfl; have hfz33_0 := blk_frozen BK101.out 0; have hfz33_1 := blk_frozen BK101.out 1; have hfz33_2 := blk_frozen BK101.out 2; have hfz33_3 := blk_frozen BK101.out 3; have hfz33_4 := blk_frozen BK101.out 4; have hfz33_5 := blk_frozen BK101.out 5; have hcz34_0 : w32.cell? ⟨gb102, 0, none⟩ = some (.int .i64 a2_0) := (blk_cell BK102.out 0).trans rfl; have hcz34_1 : w32.cell? ⟨gb102, 1, none⟩ = some (.int .i64 a2_1) := (blk_cell BK102.out 1).trans rfl; have hcz34_2 : w32.cell? ⟨gb102, 2, none⟩ = some (.int .i64 a2_2) := (blk_cell BK102.out 2).trans rfl; have hfz34_0 := blk_frozen BK102.out 0; have hfz34_1 := blk_frozen BK102.out 1; have hfz34_2 := blk_frozen BK102.out 2)))
       go_meet
       case rel => exact ⟨_, (true), qz0_, H', ⟨(by first | omega | exact Nat.le_refl _)⟩, ⟨qz7_⟩, ⟨qz8_⟩, ⟨qz9_⟩⟩
     ·
      rw [if_neg c12] at H
      have c12b0 : ((l0_1.length : Int) == (wrap64 (a1 - 1))) = false := beq_eq_false_iff_ne.mpr c12
      have c12b1 : ((l0_1.length : Int) != (wrap64 (a1 - 1))) = true := bne_iff_ne.mpr c12
      have H' := am_ H
      clear H
      go_wp2_with (first | (go_at_call 29; (with_reducible refine (spec_l01In.calls a1 1 6 true _ A7.out).mono ?_); rintro e w' ⟨rfl, ⟨nd, rfl⟩⟩; (try first | exact ⟨rfl, _, qd1_⟩ | exact ⟨rfl, _, qd2_⟩); have hnb35 := NB102_101.out; have hnc35 := NB101_102.out; have hcz36_0 : w6.cell? ⟨gb102, 0, none⟩ = some (.int .i64 a2_0) := (blk_cell BK102.out 0).trans rfl; have hcz36_1 : w6.cell? ⟨gb102, 1, none⟩ = some (.int .i64 a2_1) := (blk_cell BK102.out 1).trans rfl; have hcz36_2 : w6.cell? ⟨gb102, 2, none⟩ = some (.int .i64 a2_2) := (blk_cell BK102.out 2).trans rfl; have hfz36_0 := blk_frozen BK102.out 0; have hfz36_1 := blk_frozen BK102.out 1; have hfz36_2 := blk_frozen BK102.out 2) | (go_at_call 30; (with_reducible refine (spec_SettingOK.calls a2_0 a2_1 a2_2 true _ A9.out).mono ?_); rintro e w37 ⟨rfl, hb⟩; have n0_ := am_ (blk_below (g := gb101) (o := .cells #[.slice A0_0 l0_0.length c0_0, .slice A0_1 l0_1.length c0_1, .int .i64 a0_2, .int .i64 a0_3, .int .i64 a0_4, .slice A0_5 l0_5.length c0_5] 47 (0, 0)) qz7_ hb); have n1_ := am_ (blk_below (g := gb102) (o := .cells #[.int .i64 a2_0, .int .i64 a2_1, .int .i64 a2_2] 49 (0, 0)) qz8_ hb); have n2_ := am_ (below_step qz9_ hb); clear BK101; clear BK102; clear HB; have BK101 := n0_; have BK102 := n1_; have HB := n2_; clear n0_ n1_ n2_; (try clear hb); (try clear hb2); (try clear hk); (try clear hi); have hcz38_0 : w37.cell? ⟨gb101, 0, none⟩ = some (.slice A0_0 l0_0.length c0_0) := (blk_cell BK101.out 0).trans rfl; have hcz38_1 : w37.cell? ⟨gb101, 1, none⟩ = some (.slice A0_1 l0_1.length c0_1) := (blk_cell BK101.out 1).trans rfl; have hcz38_2 : w37.cell? ⟨gb101, 2, none⟩ = some (.int .i64 a0_2) := (blk_cell BK101.out 2).trans rfl; have hcz38_3 : w37.cell? ⟨gb101, 3, none⟩ = some (.int .i64 a0_3) := (blk_cell BK101.out 3).trans rfl; have hcz38_4 : w37.cell? ⟨gb101, 4, none⟩ = some (.int .i64 a0_4) := (blk_cell BK101.out 4).trans rfl; have hcz38_5 : w37.cell? ⟨gb101, 5, none⟩ = some (.slice A0_5 l0_5.length c0_5) := (blk_cell BK101.out 5).trans rfl; have hfz38_0 := blk_frozen BK101.out 0; have hfz38_1 := blk_frozen BK101.out 1; have hfz38_2 := blk_frozen BK101.out 2; have hfz38_3 := blk_frozen BK101.out 3; have hfz38_4 := blk_frozen BK101.out 4; have hfz38_5 := blk_frozen BK101.out 5))
      repeat (go_quiet (first | (go_at_call 29; (with_reducible refine (spec_l01In.calls a1 1 6 true _ A7.out).mono ?_); rintro e w' ⟨rfl, ⟨nd, rfl⟩⟩; (try first | exact ⟨rfl, _, qd1_⟩ | exact ⟨rfl, _, qd2_⟩); have hnb35 := NB102_101.out; have hnc35 := NB101_102.out; have hcz36_0 : w6.cell? ⟨gb102, 0, none⟩ = some (.int .i64 a2_0) := (blk_cell BK102.out 0).trans rfl; have hcz36_1 : w6.cell? ⟨gb102, 1, none⟩ = some (.int .i64 a2_1) := (blk_cell BK102.out 1).trans rfl; have hcz36_2 : w6.cell? ⟨gb102, 2, none⟩ = some (.int .i64 a2_2) := (blk_cell BK102.out 2).trans rfl; have hfz36_0 := blk_frozen BK102.out 0; have hfz36_1 := blk_frozen BK102.out 1; have hfz36_2 := blk_frozen BK102.out 2) | (go_at_call 30; (with_reducible refine (spec_SettingOK.calls a2_0 a2_1 a2_2 true _ A9.out).mono ?_); rintro e w37 ⟨rfl, hb⟩; have n0_ := am_ (blk_below (g := gb101) (o := .cells #[.slice A0_0 l0_0.length c0_0, .slice A0_1 l0_1.length c0_1, .int .i64 a0_2, .int .i64 a0_3, .int .i64 a0_4, .slice A0_5 l0_5.length c0_5] 47 (0, 0)) qz7_ hb); have n1_ := am_ (blk_below (g := gb102) (o := .cells #[.int .i64 a2_0, .int .i64 a2_1, .int .i64 a2_2] 49 (0, 0)) qz8_ hb); have n2_ := am_ (below_step qz9_ hb); clear BK101; clear BK102; clear HB; have BK101 := n0_; have BK102 := n1_; have HB := n2_; clear n0_ n1_ n2_; (try clear hb); (try clear hb2); (try clear hk); (try clear hi); have hcz38_0 : w37.cell? ⟨gb101, 0, none⟩ = some (.slice A0_0 l0_0.length c0_0) := (blk_cell BK101.out 0).trans rfl; have hcz38_1 : w37.cell? ⟨gb101, 1, none⟩ = some (.slice A0_1 l0_1.length c0_1) := (blk_cell BK101.out 1).trans rfl; have hcz38_2 : w37.cell? ⟨gb101, 2, none⟩ = some (.int .i64 a0_2) := (blk_cell BK101.out 2).trans rfl; have hcz38_3 : w37.cell? ⟨gb101, 3, none⟩ = some (.int .i64 a0_3) := (blk_cell BK101.out 3).trans rfl; have hcz38_4 : w37.cell? ⟨gb101, 4, none⟩ = some (.int .i64 a0_4) := (blk_cell BK101.out 4).trans rfl; have hcz38_5 : w37.cell? ⟨gb101, 5, none⟩ = some (.slice A0_5 l0_5.length c0_5) := (blk_cell BK101.out 5).trans rfl; have hfz38_0 := blk_frozen BK101.out 0; have hfz38_1 := blk_frozen BK101.out 1; have hfz38_2 := blk_frozen BK101.out 2; have hfz38_3 := blk_frozen BK101.out 3; have hfz38_4 := blk_frozen BK101.out 4; have hfz38_5 := blk_frozen BK101.out 5)); try go_wp2_with (first | (go_at_call 29; (with_reducible refine (spec_l01In.calls a1 1 6 true _ A7.out).mono ?_); rintro e w' ⟨rfl, ⟨nd, rfl⟩⟩; (try first | exact ⟨rfl, _, qd1_⟩ | exact ⟨rfl, _, qd2_⟩); have hnb35 := NB102_101.out; have hnc35 := NB101_102.out; have hcz36_0 : w6.cell? ⟨gb102, 0, none⟩ = some (.int .i64 a2_0) := (blk_cell BK102.out 0).trans rfl; have hcz36_1 : w6.cell? ⟨gb102, 1, none⟩ = some (.int .i64 a2_1) := (blk_cell BK102.out 1).trans rfl; have hcz36_2 : w6.cell? ⟨gb102, 2, none⟩ = some (.int .i64 a2_2) := (blk_cell BK102.out 2).trans rfl; have hfz36_0 := blk_frozen BK102.out 0; have hfz36_1 := blk_frozen BK102.out 1; have hfz36_2 := blk_frozen BK102.out 2) | (go_at_call 30; (with_reducible refine (spec_SettingOK.calls a2_0 a2_1 a2_2 true _ A9.out).mono ?_); rintro e w37 ⟨rfl, hb⟩; have n0_ := am_ (blk_below (g := gb101) (o := .cells #[.slice A0_0 l0_0.length c0_0, .slice A0_1 l0_1.length c0_1, .int .i64 a0_2, .int .i64 a0_3, .int .i64 a0_4, .slice A0_5 l0_5.length c0_5] 47 (0, 0)) qz7_ hb); have n1_ := am_ (blk_below (g := gb102) (o := .cells #[.int .i64 a2_0, .int .i64 a2_1, .int .i64 a2_2] 49 (0, 0)) qz8_ hb); have n2_ := am_ (below_step qz9_ hb); clear BK101; clear BK102; clear HB; have BK101 := n0_; have BK102 := n1_; have HB := n2_; clear n0_ n1_ n2_; (try clear hb); (try clear hb2); (try clear hk); (try clear hi); have hcz38_0 : w37.cell? ⟨gb101, 0, none⟩ = some (.slice A0_0 l0_0.length c0_0) := (blk_cell BK101.out 0).trans rfl; have hcz38_1 : w37.cell? ⟨gb101, 1, none⟩ = some (.slice A0_1 l0_1.length c0_1) := (blk_cell BK101.out 1).trans rfl; have hcz38_2 : w37.cell? ⟨gb101, 2, none⟩ = some (.int .i64 a0_2) := (blk_cell BK101.out 2).trans rfl; have hcz38_3 : w37.cell? ⟨gb101, 3, none⟩ = some (.int .i64 a0_3) := (blk_cell BK101.out 3).trans rfl; have hcz38_4 : w37.cell? ⟨gb101, 4, none⟩ = some (.int .i64 a0_4) := (blk_cell BK101.out 4).trans rfl; have hcz38_5 : w37.cell? ⟨gb101, 5, none⟩ = some (.slice A0_5 l0_5.length c0_5) := (blk_cell BK101.out 5).trans rfl; have hfz38_0 := blk_frozen BK101.out 0; have hfz38_1 := blk_frozen BK101.out 1; have hfz38_2 := blk_frozen BK101.out 2; have hfz38_3 := blk_frozen BK101.out 3; have hfz38_4 := blk_frozen BK101.out 4; have hfz38_5 := blk_frozen BK101.out 5)))
      go_meet
      case rel => exact ⟨_, (true), qz0_, H', ⟨(by first | omega | exact Nat.le_refl _)⟩, ⟨qz7_⟩, ⟨qz8_⟩, ⟨qz9_⟩⟩
    ·
     rw [if_neg c11] at H
     have c11b0 : ((l0_0.length : Int) == a1) = false := beq_eq_false_iff_ne.mpr c11
     have c11b1 : ((l0_0.length : Int) != a1) = true := bne_iff_ne.mpr c11
     (first | rw [c11b0] | (simp only [i64_w, i32_w]; rw [c11b0]) | skip)
     have H' := am_ H
     clear H
     go_wp2_with (first | (go_at_call 29; (with_reducible refine (spec_l01In.calls a1 1 6 true _ A7.out).mono ?_); rintro e w' ⟨rfl, ⟨nd, rfl⟩⟩; (try first | exact ⟨rfl, _, qd1_⟩ | exact ⟨rfl, _, qd2_⟩); have hnb39 := NB102_101.out; have hnc39 := NB101_102.out; have hcz40_0 : w6.cell? ⟨gb102, 0, none⟩ = some (.int .i64 a2_0) := (blk_cell BK102.out 0).trans rfl; have hcz40_1 : w6.cell? ⟨gb102, 1, none⟩ = some (.int .i64 a2_1) := (blk_cell BK102.out 1).trans rfl; have hcz40_2 : w6.cell? ⟨gb102, 2, none⟩ = some (.int .i64 a2_2) := (blk_cell BK102.out 2).trans rfl; have hfz40_0 := blk_frozen BK102.out 0; have hfz40_1 := blk_frozen BK102.out 1; have hfz40_2 := blk_frozen BK102.out 2) | (go_at_call 30; (with_reducible refine (spec_SettingOK.calls a2_0 a2_1 a2_2 true _ A9.out).mono ?_); rintro e w41 ⟨rfl, hb⟩; have n0_ := am_ (blk_below (g := gb101) (o := .cells #[.slice A0_0 l0_0.length c0_0, .slice A0_1 l0_1.length c0_1, .int .i64 a0_2, .int .i64 a0_3, .int .i64 a0_4, .slice A0_5 l0_5.length c0_5] 47 (0, 0)) qz7_ hb); have n1_ := am_ (blk_below (g := gb102) (o := .cells #[.int .i64 a2_0, .int .i64 a2_1, .int .i64 a2_2] 49 (0, 0)) qz8_ hb); have n2_ := am_ (below_step qz9_ hb); clear BK101; clear BK102; clear HB; have BK101 := n0_; have BK102 := n1_; have HB := n2_; clear n0_ n1_ n2_; (try clear hb); (try clear hb2); (try clear hk); (try clear hi); have hcz42_0 : w41.cell? ⟨gb101, 0, none⟩ = some (.slice A0_0 l0_0.length c0_0) := (blk_cell BK101.out 0).trans rfl; have hcz42_1 : w41.cell? ⟨gb101, 1, none⟩ = some (.slice A0_1 l0_1.length c0_1) := (blk_cell BK101.out 1).trans rfl; have hcz42_2 : w41.cell? ⟨gb101, 2, none⟩ = some (.int .i64 a0_2) := (blk_cell BK101.out 2).trans rfl; have hcz42_3 : w41.cell? ⟨gb101, 3, none⟩ = some (.int .i64 a0_3) := (blk_cell BK101.out 3).trans rfl; have hcz42_4 : w41.cell? ⟨gb101, 4, none⟩ = some (.int .i64 a0_4) := (blk_cell BK101.out 4).trans rfl; have hcz42_5 : w41.cell? ⟨gb101, 5, none⟩ = some (.slice A0_5 l0_5.length c0_5) := (blk_cell BK101.out 5).trans rfl; have hfz42_0 := blk_frozen BK101.out 0; have hfz42_1 := blk_frozen BK101.out 1; have hfz42_2 := blk_frozen BK101.out 2; have hfz42_3 := blk_frozen BK101.out 3; have hfz42_4 := blk_frozen BK101.out 4; have hfz42_5 := blk_frozen BK101.out 5))
     repeat (go_quiet (first | (go_at_call 29; (with_reducible refine (spec_l01In.calls a1 1 6 true _ A7.out).mono ?_); rintro e w' ⟨rfl, ⟨nd, rfl⟩⟩; (try first | exact ⟨rfl, _, qd1_⟩ | exact ⟨rfl, _, qd2_⟩); have hnb39 := NB102_101.out; have hnc39 := NB101_102.out; have hcz40_0 : w6.cell? ⟨gb102, 0, none⟩ = some (.int .i64 a2_0) := (blk_cell BK102.out 0).trans rfl; have hcz40_1 : w6.cell? ⟨gb102, 1, none⟩ = some (.int .i64 a2_1) := (blk_cell BK102.out 1).trans rfl; have hcz40_2 : w6.cell? ⟨gb102, 2, none⟩ = some (.int .i64 a2_2) := (blk_cell BK102.out 2).trans rfl; have hfz40_0 := blk_frozen BK102.out 0; have hfz40_1 := blk_frozen BK102.out 1; have hfz40_2 := blk_frozen BK102.out 2) | (go_at_call 30; (with_reducible refine (spec_SettingOK.calls a2_0 a2_1 a2_2 true _ A9.out).mono ?_); rintro e w41 ⟨rfl, hb⟩; have n0_ := am_ (blk_below (g := gb101) (o := .cells #[.slice A0_0 l0_0.length c0_0, .slice A0_1 l0_1.length c0_1, .int .i64 a0_2, .int .i64 a0_3, .int .i64 a0_4, .slice A0_5 l0_5.length c0_5] 47 (0, 0)) qz7_ hb); have n1_ := am_ (blk_below (g := gb102) (o := .cells #[.int .i64 a2_0, .int .i64 a2_1, .int .i64 a2_2] 49 (0, 0)) qz8_ hb); have n2_ := am_ (below_step qz9_ hb); clear BK101; clear BK102; clear HB; have BK101 := n0_; have BK102 := n1_; have HB := n2_; clear n0_ n1_ n2_; (try clear hb); (try clear hb2); (try clear hk); (try clear hi); have hcz42_0 : w41.cell? ⟨gb101, 0, none⟩ = some (.slice A0_0 l0_0.length c0_0) := (blk_cell BK101.out 0).trans rfl; have hcz42_1 : w41.cell? ⟨gb101, 1, none⟩ = some (.slice A0_1 l0_1.length c0_1) := (blk_cell BK101.out 1).trans rfl; have hcz42_2 : w41.cell? ⟨gb101, 2, none⟩ = some (.int .i64 a0_2) := (blk_cell BK101.out 2).trans rfl; have hcz42_3 : w41.cell? ⟨gb101, 3, none⟩ = some (.int .i64 a0_3) := (blk_cell BK101.out 3).trans rfl; have hcz42_4 : w41.cell? ⟨gb101, 4, none⟩ = some (.int .i64 a0_4) := (blk_cell BK101.out 4).trans rfl; have hcz42_5 : w41.cell? ⟨gb101, 5, none⟩ = some (.slice A0_5 l0_5.length c0_5) := (blk_cell BK101.out 5).trans rfl; have hfz42_0 := blk_frozen BK101.out 0; have hfz42_1 := blk_frozen BK101.out 1; have hfz42_2 := blk_frozen BK101.out 2; have hfz42_3 := blk_frozen BK101.out 3; have hfz42_4 := blk_frozen BK101.out 4; have hfz42_5 := blk_frozen BK101.out 5)); try go_wp2_with (first | (go_at_call 29; (with_reducible refine (spec_l01In.calls a1 1 6 true _ A7.out).mono ?_); rintro e w' ⟨rfl, ⟨nd, rfl⟩⟩; (try first | exact ⟨rfl, _, qd1_⟩ | exact ⟨rfl, _, qd2_⟩); have hnb39 := NB102_101.out; have hnc39 := NB101_102.out; have hcz40_0 : w6.cell? ⟨gb102, 0, none⟩ = some (.int .i64 a2_0) := (blk_cell BK102.out 0).trans rfl; have hcz40_1 : w6.cell? ⟨gb102, 1, none⟩ = some (.int .i64 a2_1) := (blk_cell BK102.out 1).trans rfl; have hcz40_2 : w6.cell? ⟨gb102, 2, none⟩ = some (.int .i64 a2_2) := (blk_cell BK102.out 2).trans rfl; have hfz40_0 := blk_frozen BK102.out 0; have hfz40_1 := blk_frozen BK102.out 1; have hfz40_2 := blk_frozen BK102.out 2) | (go_at_call 30; (with_reducible refine (spec_SettingOK.calls a2_0 a2_1 a2_2 true _ A9.out).mono ?_); rintro e w41 ⟨rfl, hb⟩; have n0_ := am_ (blk_below (g := gb101) (o := .cells #[.slice A0_0 l0_0.length c0_0, .slice A0_1 l0_1.length c0_1, .int .i64 a0_2, .int .i64 a0_3, .int .i64 a0_4, .slice A0_5 l0_5.length c0_5] 47 (0, 0)) qz7_ hb); have n1_ := am_ (blk_below (g := gb102) (o := .cells #[.int .i64 a2_0, .int .i64 a2_1, .int .i64 a2_2] 49 (0, 0)) qz8_ hb); have n2_ := am_ (below_step qz9_ hb); clear BK101; clear BK102; clear HB; have BK101 := n0_; have BK102 := n1_; have HB := n2_; clear n0_ n1_ n2_; (try clear hb); (try clear hb2); (try clear hk); (try clear hi); have hcz42_0 : w41.cell? ⟨gb101, 0, none⟩ = some (.slice A0_0 l0_0.length c0_0) := (blk_cell BK101.out 0).trans rfl; have hcz42_1 : w41.cell? ⟨gb101, 1, none⟩ = some (.slice A0_1 l0_1.length c0_1) := (blk_cell BK101.out 1).trans rfl; have hcz42_2 : w41.cell? ⟨gb101, 2, none⟩ = some (.int .i64 a0_2) := (blk_cell BK101.out 2).trans rfl; have hcz42_3 : w41.cell? ⟨gb101, 3, none⟩ = some (.int .i64 a0_3) := (blk_cell BK101.out 3).trans rfl; have hcz42_4 : w41.cell? ⟨gb101, 4, none⟩ = some (.int .i64 a0_4) := (blk_cell BK101.out 4).trans rfl; have hcz42_5 : w41.cell? ⟨gb101, 5, none⟩ = some (.slice A0_5 l0_5.length c0_5) := (blk_cell BK101.out 5).trans rfl; have hfz42_0 := blk_frozen BK101.out 0; have hfz42_1 := blk_frozen BK101.out 1; have hfz42_2 := blk_frozen BK101.out 2; have hfz42_3 := blk_frozen BK101.out 3; have hfz42_4 := blk_frozen BK101.out 4; have hfz42_5 := blk_frozen BK101.out 5)))
     go_meet
     case rel => exact ⟨_, (true), qz0_, H', ⟨(by first | omega | exact Nat.le_refl _)⟩, ⟨qz7_⟩, ⟨qz8_⟩, ⟨qz9_⟩⟩
   ·
    replace c10 := Bool.eq_false_iff.mpr c10
    subst c10
    have H1 : (spec_OpeningOK.j0 k a1 true l0_0 l0_1 a0_2 a0_3 a0_4 l0_5 a2_0 a2_1 a2_2) = some r := by rw [if_neg (show ¬ (false = true) by decide)] at H; exact H
    clear H
    have H := H1
    clear H1
    have H' := am_ H
    clear H
    go_wp2_with (first | (go_at_call 29; (with_reducible refine (spec_l01In.calls a1 1 6 true _ A7.out).mono ?_); rintro e w' ⟨rfl, ⟨nd, rfl⟩⟩; (try first | exact ⟨rfl, _, qd1_⟩ | exact ⟨rfl, _, qd2_⟩); have hnb43 := NB102_101.out; have hnc43 := NB101_102.out; have hcz44_0 : w6.cell? ⟨gb102, 0, none⟩ = some (.int .i64 a2_0) := (blk_cell BK102.out 0).trans rfl; have hcz44_1 : w6.cell? ⟨gb102, 1, none⟩ = some (.int .i64 a2_1) := (blk_cell BK102.out 1).trans rfl; have hcz44_2 : w6.cell? ⟨gb102, 2, none⟩ = some (.int .i64 a2_2) := (blk_cell BK102.out 2).trans rfl; have hfz44_0 := blk_frozen BK102.out 0; have hfz44_1 := blk_frozen BK102.out 1; have hfz44_2 := blk_frozen BK102.out 2) | (go_at_call 30; (with_reducible refine (spec_SettingOK.calls a2_0 a2_1 a2_2 false _ A9.out).mono ?_); rintro e w45 ⟨rfl, hb⟩; have n0_ := am_ (blk_below (g := gb101) (o := .cells #[.slice A0_0 l0_0.length c0_0, .slice A0_1 l0_1.length c0_1, .int .i64 a0_2, .int .i64 a0_3, .int .i64 a0_4, .slice A0_5 l0_5.length c0_5] 47 (0, 0)) qz7_ hb); have n1_ := am_ (blk_below (g := gb102) (o := .cells #[.int .i64 a2_0, .int .i64 a2_1, .int .i64 a2_2] 49 (0, 0)) qz8_ hb); have n2_ := am_ (below_step qz9_ hb); clear BK101; clear BK102; clear HB; have BK101 := n0_; have BK102 := n1_; have HB := n2_; clear n0_ n1_ n2_; (try clear hb); (try clear hb2); (try clear hk); (try clear hi)))
    repeat (go_quiet (first | (go_at_call 29; (with_reducible refine (spec_l01In.calls a1 1 6 true _ A7.out).mono ?_); rintro e w' ⟨rfl, ⟨nd, rfl⟩⟩; (try first | exact ⟨rfl, _, qd1_⟩ | exact ⟨rfl, _, qd2_⟩); have hnb43 := NB102_101.out; have hnc43 := NB101_102.out; have hcz44_0 : w6.cell? ⟨gb102, 0, none⟩ = some (.int .i64 a2_0) := (blk_cell BK102.out 0).trans rfl; have hcz44_1 : w6.cell? ⟨gb102, 1, none⟩ = some (.int .i64 a2_1) := (blk_cell BK102.out 1).trans rfl; have hcz44_2 : w6.cell? ⟨gb102, 2, none⟩ = some (.int .i64 a2_2) := (blk_cell BK102.out 2).trans rfl; have hfz44_0 := blk_frozen BK102.out 0; have hfz44_1 := blk_frozen BK102.out 1; have hfz44_2 := blk_frozen BK102.out 2) | (go_at_call 30; (with_reducible refine (spec_SettingOK.calls a2_0 a2_1 a2_2 false _ A9.out).mono ?_); rintro e w45 ⟨rfl, hb⟩; have n0_ := am_ (blk_below (g := gb101) (o := .cells #[.slice A0_0 l0_0.length c0_0, .slice A0_1 l0_1.length c0_1, .int .i64 a0_2, .int .i64 a0_3, .int .i64 a0_4, .slice A0_5 l0_5.length c0_5] 47 (0, 0)) qz7_ hb); have n1_ := am_ (blk_below (g := gb102) (o := .cells #[.int .i64 a2_0, .int .i64 a2_1, .int .i64 a2_2] 49 (0, 0)) qz8_ hb); have n2_ := am_ (below_step qz9_ hb); clear BK101; clear BK102; clear HB; have BK101 := n0_; have BK102 := n1_; have HB := n2_; clear n0_ n1_ n2_; (try clear hb); (try clear hb2); (try clear hk); (try clear hi))); try go_wp2_with (first | (go_at_call 29; (with_reducible refine (spec_l01In.calls a1 1 6 true _ A7.out).mono ?_); rintro e w' ⟨rfl, ⟨nd, rfl⟩⟩; (try first | exact ⟨rfl, _, qd1_⟩ | exact ⟨rfl, _, qd2_⟩); have hnb43 := NB102_101.out; have hnc43 := NB101_102.out; have hcz44_0 : w6.cell? ⟨gb102, 0, none⟩ = some (.int .i64 a2_0) := (blk_cell BK102.out 0).trans rfl; have hcz44_1 : w6.cell? ⟨gb102, 1, none⟩ = some (.int .i64 a2_1) := (blk_cell BK102.out 1).trans rfl; have hcz44_2 : w6.cell? ⟨gb102, 2, none⟩ = some (.int .i64 a2_2) := (blk_cell BK102.out 2).trans rfl; have hfz44_0 := blk_frozen BK102.out 0; have hfz44_1 := blk_frozen BK102.out 1; have hfz44_2 := blk_frozen BK102.out 2) | (go_at_call 30; (with_reducible refine (spec_SettingOK.calls a2_0 a2_1 a2_2 false _ A9.out).mono ?_); rintro e w45 ⟨rfl, hb⟩; have n0_ := am_ (blk_below (g := gb101) (o := .cells #[.slice A0_0 l0_0.length c0_0, .slice A0_1 l0_1.length c0_1, .int .i64 a0_2, .int .i64 a0_3, .int .i64 a0_4, .slice A0_5 l0_5.length c0_5] 47 (0, 0)) qz7_ hb); have n1_ := am_ (blk_below (g := gb102) (o := .cells #[.int .i64 a2_0, .int .i64 a2_1, .int .i64 a2_2] 49 (0, 0)) qz8_ hb); have n2_ := am_ (below_step qz9_ hb); clear BK101; clear BK102; clear HB; have BK101 := n0_; have BK102 := n1_; have HB := n2_; clear n0_ n1_ n2_; (try clear hb); (try clear hb2); (try clear hk); (try clear hi))))
    go_meet
    case rel => exact ⟨_, (true), qz0_, H', ⟨(by first | omega | exact Nat.le_refl _)⟩, ⟨qz7_⟩, ⟨qz8_⟩, ⟨qz9_⟩⟩
  ·
   replace c8 := Bool.eq_false_iff.mpr c8
   subst c8
   have H1 : (spec_OpeningOK.j0 k a1 true l0_0 l0_1 a0_2 a0_3 a0_4 l0_5 a2_0 a2_1 a2_2) = some r := by rw [if_neg (show ¬ (false = true) by decide)] at H; exact H
   clear H
   have H := H1
   clear H1
   have H' := am_ H
   clear H
   go_wp2_with (first | (go_at_call 29; (with_reducible refine (spec_l01In.calls a1 1 6 false _ A7.out).mono ?_); rintro e w' ⟨rfl, ⟨nd, rfl⟩⟩; (try first | exact ⟨rfl, _, qd1_⟩ | exact ⟨rfl, _, qd2_⟩)))
   repeat (go_quiet (first | (go_at_call 29; (with_reducible refine (spec_l01In.calls a1 1 6 false _ A7.out).mono ?_); rintro e w' ⟨rfl, ⟨nd, rfl⟩⟩; (try first | exact ⟨rfl, _, qd1_⟩ | exact ⟨rfl, _, qd2_⟩))); try go_wp2_with (first | (go_at_call 29; (with_reducible refine (spec_l01In.calls a1 1 6 false _ A7.out).mono ?_); rintro e w' ⟨rfl, ⟨nd, rfl⟩⟩; (try first | exact ⟨rfl, _, qd1_⟩ | exact ⟨rfl, _, qd2_⟩))))
   go_meet
   case rel => exact ⟨_, (true), qz0_, H', ⟨(by first | omega | exact Nat.le_refl _)⟩, ⟨qz7_⟩, ⟨qz8_⟩, ⟨qz9_⟩⟩
 case rest =>
  clear HC4
  (try clear c1); (try clear c2); (try clear p2); (try clear c3); (try clear c4); (try clear p6); (try clear c8); (try clear c10); (try clear c11); (try clear c11b0); (try clear c11b1); (try clear c12); (try clear c12b0); (try clear c12b1); (try clear c13); (try clear c13b0); (try clear c13b1); (try clear c15); (try clear c17); (try clear c24); (try clear c30); (try clear c35); (try clear c39); (try clear c43)
  (try clear hcz18_0); (try clear hcz18_1); (try clear hcz18_2); (try clear hcz20_0); (try clear hcz20_1); (try clear hcz20_2); (try clear hcz20_3); (try clear hcz20_4); (try clear hcz20_5); (try clear hcz21_0); (try clear hcz21_1); (try clear hcz21_2); (try clear hcz23_0); (try clear hcz23_1); (try clear hcz23_2); (try clear hcz23_3); (try clear hcz23_4); (try clear hcz23_5); (try clear hcz25_0)
  (try clear hcz25_1); (try clear hcz25_2); (try clear hcz27_0); (try clear hcz27_1); (try clear hcz27_2); (try clear hcz27_3); (try clear hcz27_4); (try clear hcz27_5); (try clear hcz28_0); (try clear hcz28_1); (try clear hcz28_2); (try clear hcz31_0); (try clear hcz31_1); (try clear hcz31_2); (try clear hcz33_0); (try clear hcz33_1); (try clear hcz33_2); (try clear hcz33_3); (try clear hcz33_4)
  (try clear hcz33_5); (try clear hcz34_0); (try clear hcz34_1); (try clear hcz34_2); (try clear hcz36_0); (try clear hcz36_1); (try clear hcz36_2); (try clear hcz38_0); (try clear hcz38_1); (try clear hcz38_2); (try clear hcz38_3); (try clear hcz38_4); (try clear hcz38_5); (try clear hcz40_0); (try clear hcz40_1); (try clear hcz40_2); (try clear hcz42_0); (try clear hcz42_1); (try clear hcz42_2)
  (try clear hcz42_3); (try clear hcz42_4); (try clear hcz42_5); (try clear hcz44_0); (try clear hcz44_1); (try clear hcz44_2); (try clear hfz18_0); (try clear hfz18_1); (try clear hfz18_2); (try clear hfz20_0); (try clear hfz20_1); (try clear hfz20_2); (try clear hfz20_3); (try clear hfz20_4); (try clear hfz20_5); (try clear hfz21_0); (try clear hfz21_1); (try clear hfz21_2); (try clear hfz23_0)
  (try clear hfz23_1); (try clear hfz23_2); (try clear hfz23_3); (try clear hfz23_4); (try clear hfz23_5); (try clear hfz25_0); (try clear hfz25_1); (try clear hfz25_2); (try clear hfz27_0); (try clear hfz27_1); (try clear hfz27_2); (try clear hfz27_3); (try clear hfz27_4); (try clear hfz27_5); (try clear hfz28_0); (try clear hfz28_1); (try clear hfz28_2); (try clear hfz31_0); (try clear hfz31_1)
  (try clear hfz31_2); (try clear hfz33_0); (try clear hfz33_1); (try clear hfz33_2); (try clear hfz33_3); (try clear hfz33_4); (try clear hfz33_5); (try clear hfz34_0); (try clear hfz34_1); (try clear hfz34_2); (try clear hfz36_0); (try clear hfz36_1); (try clear hfz36_2); (try clear hfz38_0); (try clear hfz38_1); (try clear hfz38_2); (try clear hfz38_3); (try clear hfz38_4); (try clear hfz38_5)
  (try clear hfz40_0); (try clear hfz40_1); (try clear hfz40_2); (try clear hfz42_0); (try clear hfz42_1); (try clear hfz42_2); (try clear hfz42_3); (try clear hfz42_4); (try clear hfz42_5); (try clear hfz44_0); (try clear hfz44_1); (try clear hfz44_2)
  obtain ⟨kq, x54_3, rfl, HA, HJ3, BK101, BK102, HB⟩ := hcut
  cases kq with
  | zero => exact absurd HA.out (by simp [spec_OpeningOK.j0])
  | succ kj3 =>
   have H := HA.out
   clear HA
   simp only [spec_OpeningOK.j0] at H
   by_cases c46 : x54_3 = true
   ·
    subst c46
    have H1 : (some false) = some r := by rw [if_pos rfl] at H; exact H
    clear H
    have H := H1
    clear H1
    obtain rfl := Option.some.inj H
    go_wp2
    repeat (go_quiet (fail); try go_wp2)
    go_ret
    exact ⟨qz5_, qz9_⟩
   ·
    replace c46 := Bool.eq_false_iff.mpr c46
    subst c46
    have H1 : (spec_OpeningOK.l0 kj3 a1 0 l0_0 l0_1 a0_2 a0_3 a0_4 l0_5 a2_0 a2_1 a2_2) = some r := by rw [if_neg (show ¬ (false = true) by decide)] at H; exact H
    clear H
    have H := H1
    clear H1
    have H' := am_ H
    clear H
    go_wp2
    repeat (go_quiet (fail); try go_wp2)
    go_loopg [7] kj3 (fun kq v7 w' => ∃ (x7_2 : Int), v7 = .int .i64 x7_2 ∧ Aside0 (spec_OpeningOK.l0 kq a1 x7_2 l0_0 l0_1 a0_2 a0_3 a0_4 l0_5 a2_0 a2_1 a2_2 = some r) ∧ Aside0 (kq ≤ kj3) ∧ Aside0 (w'.heap[gb101]? = some (.cells #[(.slice A0_0 l0_0.length c0_0), (.slice A0_1 l0_1.length c0_1), .int .i64 a0_2, .int .i64 a0_3, .int .i64 a0_4, (.slice A0_5 l0_5.length c0_5)] 47 (0, 0))) ∧ Aside0 (w'.heap[gb102]? = some (.cells #[.int .i64 a2_0, .int .i64 a2_1, .int .i64 a2_2] 49 (0, 0))) ∧ Aside0 (Below w.heap.size w w'))
    case atStart => exact ⟨(0), qz0_, H', ⟨Nat.le_refl _⟩, ⟨qz7_⟩, ⟨qz8_⟩, ⟨qz9_⟩⟩
    case round =>
     clear H'
     (try clear c1); (try clear c2); (try clear p2); (try clear c3); (try clear c4); (try clear p6); (try clear c8); (try clear c10); (try clear c11); (try clear c11b0); (try clear c11b1); (try clear c12); (try clear c12b0); (try clear c12b1); (try clear c13); (try clear c13b0); (try clear c13b1); (try clear c15); (try clear c17); (try clear c24); (try clear c30); (try clear c35); (try clear c39)
     (try clear c43); (try clear c46); (try clear hcz18_0); (try clear hcz18_1); (try clear hcz18_2); (try clear hcz20_0); (try clear hcz20_1); (try clear hcz20_2); (try clear hcz20_3); (try clear hcz20_4); (try clear hcz20_5); (try clear hcz21_0); (try clear hcz21_1); (try clear hcz21_2); (try clear hcz23_0); (try clear hcz23_1); (try clear hcz23_2); (try clear hcz23_3); (try clear hcz23_4); (try clear hcz23_5)
     (try clear hcz25_0); (try clear hcz25_1); (try clear hcz25_2); (try clear hcz27_0); (try clear hcz27_1); (try clear hcz27_2); (try clear hcz27_3); (try clear hcz27_4); (try clear hcz27_5); (try clear hcz28_0); (try clear hcz28_1); (try clear hcz28_2); (try clear hcz31_0); (try clear hcz31_1); (try clear hcz31_2); (try clear hcz33_0); (try clear hcz33_1); (try clear hcz33_2); (try clear hcz33_3)
     (try clear hcz33_4); (try clear hcz33_5); (try clear hcz34_0); (try clear hcz34_1); (try clear hcz34_2); (try clear hcz36_0); (try clear hcz36_1); (try clear hcz36_2); (try clear hcz38_0); (try clear hcz38_1); (try clear hcz38_2); (try clear hcz38_3); (try clear hcz38_4); (try clear hcz38_5); (try clear hcz40_0); (try clear hcz40_1); (try clear hcz40_2); (try clear hcz42_0); (try clear hcz42_1)
     (try clear hcz42_2); (try clear hcz42_3); (try clear hcz42_4); (try clear hcz42_5); (try clear hcz44_0); (try clear hcz44_1); (try clear hcz44_2); (try clear hfz18_0); (try clear hfz18_1); (try clear hfz18_2); (try clear hfz20_0); (try clear hfz20_1); (try clear hfz20_2); (try clear hfz20_3); (try clear hfz20_4); (try clear hfz20_5); (try clear hfz21_0); (try clear hfz21_1); (try clear hfz21_2)
     (try clear hfz23_0); (try clear hfz23_1); (try clear hfz23_2); (try clear hfz23_3); (try clear hfz23_4); (try clear hfz23_5); (try clear hfz25_0); (try clear hfz25_1); (try clear hfz25_2); (try clear hfz27_0); (try clear hfz27_1); (try clear hfz27_2); (try clear hfz27_3); (try clear hfz27_4); (try clear hfz27_5); (try clear hfz28_0); (try clear hfz28_1); (try clear hfz28_2); (try clear hfz31_0)
     (try clear hfz31_1); (try clear hfz31_2); (try clear hfz33_0); (try clear hfz33_1); (try clear hfz33_2); (try clear hfz33_3); (try clear hfz33_4); (try clear hfz33_5); (try clear hfz34_0); (try clear hfz34_1); (try clear hfz34_2); (try clear hfz36_0); (try clear hfz36_1); (try clear hfz36_2); (try clear hfz38_0); (try clear hfz38_1); (try clear hfz38_2); (try clear hfz38_3); (try clear hfz38_4)
     (try clear hfz38_5); (try clear hfz40_0); (try clear hfz40_1); (try clear hfz40_2); (try clear hfz42_0); (try clear hfz42_1); (try clear hfz42_2); (try clear hfz42_3); (try clear hfz42_4); (try clear hfz42_5); (try clear hfz44_0); (try clear hfz44_1); (try clear hfz44_2); (try clear p2); (try clear p6)
     obtain ⟨x7_2, rfl, HA, HK2, BK101, BK102, HB⟩ := hrel
     cases gk with
     | zero => exact absurd HA.out (by simp [spec_OpeningOK.l0])
     | succ k2 =>
      have H := HA.out
      clear HA
      simp only [spec_OpeningOK.l0] at H
      by_cases c47 : x7_2 < a1
      ·
       rw [if_pos c47] at H
       have c47b0 : decide (x7_2 < a1) = true := decide_eq_true c47
       clear c47
       by_cases c48 : 0 ≤ x7_2
       ·
        rw [if_pos c48] at H
        have c48b0 : decide (0 ≤ x7_2) = true := decide_eq_true c48
        clear c48
        by_cases c49 : x7_2 < (l0_0.length : Int)
        ·
         rw [if_pos c49] at H
         have c49b0 : decide (x7_2 < (l0_0.length : Int)) = true := decide_eq_true c49
         clear c49
         by_cases c50 : ((rd_L4 l0_0 x7_2).length : Int) = 3
         ·
          rw [if_pos c50] at H
          have c50b0 : (((rd_L4 l0_0 x7_2).length : Int) == 3) = true := beq_iff_eq.mpr c50
          have c50b1 : (((rd_L4 l0_0 x7_2).length : Int) != 3) = false := bne_eq_false_iff_eq.mpr c50
          clear c50
          replace H := Option.bind_eq_some_iff.mp H
          obtain ⟨t109, A510, H⟩ := H
          replace H : (if t109 = true then (if x7_2 > 0 then (if 0 ≤ (wrap64 (x7_2 - 1)) then (if (wrap64 (x7_2 - 1)) < (l0_1.length : Int) then (if ((rdOf ByteArray.empty l0_1 (wrap64 (x7_2 - 1))).size : Int) = 32 then (spec_OpeningOK.l0 k2 a1 (wrap64 (x7_2 + 1)) l0_0 l0_1 a0_2 a0_3 a0_4 l0_5 a2_0 a2_1 a2_2) else (some false)) else (none)) else (none)) else (spec_OpeningOK.l0 k2 a1 (wrap64 (x7_2 + 1)) l0_0 l0_1 a0_2 a0_3 a0_4 l0_5 a2_0 a2_1 a2_2)) else (some false)) = some r := H
          have A51 := am_ A510
          clear A510
          by_cases c52 : t109 = true
          ·
           subst c52
           have H1 : (if x7_2 > 0 then (if 0 ≤ (wrap64 (x7_2 - 1)) then (if (wrap64 (x7_2 - 1)) < (l0_1.length : Int) then (if ((rdOf ByteArray.empty l0_1 (wrap64 (x7_2 - 1))).size : Int) = 32 then (spec_OpeningOK.l0 k2 a1 (wrap64 (x7_2 + 1)) l0_0 l0_1 a0_2 a0_3 a0_4 l0_5 a2_0 a2_1 a2_2) else (some false)) else (none)) else (none)) else (spec_OpeningOK.l0 k2 a1 (wrap64 (x7_2 + 1)) l0_0 l0_1 a0_2 a0_3 a0_4 l0_5 a2_0 a2_1 a2_2)) = some r := by rw [if_pos rfl] at H; exact H
           clear H
           have H := H1
           clear H1
           by_cases c53 : x7_2 > 0
           ·
            rw [if_pos c53] at H
            have c53b0 : decide (0 < x7_2) = true := decide_eq_true c53
            clear c53
            obtain ⟨ji54, hji54⟩ : ∃ j_ : Int, (wrap64 (x7_2 - 1)) = j_ := ⟨_, rfl⟩
            replace H : (if 0 ≤ (ji54) then (if (ji54) < (l0_1.length : Int) then (if ((rdOf ByteArray.empty l0_1 (ji54)).size : Int) = 32 then (spec_OpeningOK.l0 k2 a1 (wrap64 (x7_2 + 1)) l0_0 l0_1 a0_2 a0_3 a0_4 l0_5 a2_0 a2_1 a2_2) else (some false)) else (none)) else (none)) = some r := by first | (rw [hji54] at H; exact H) | (simp only [hji54] at H ⊢; exact H)
            (try rw [hji54] at A51)
            have hji54w : (IntKind.i64.wrap (x7_2 - 1)) = ji54 := (i64_w _).trans hji54
            by_cases c55 : 0 ≤ (ji54)
            ·
             rw [if_pos c55] at H
             have c55b0 : decide (0 ≤ (ji54)) = true := decide_eq_true c55
             clear c55
             by_cases c56 : (ji54) < (l0_1.length : Int)
             ·
              rw [if_pos c56] at H
              have c56b0 : decide ((ji54) < (l0_1.length : Int)) = true := decide_eq_true c56
              clear c56
              by_cases c57 : ((rdOf ByteArray.empty l0_1 (ji54)).size : Int) = 32
              ·
               rw [if_pos c57] at H
               have c57b0 : (((rdOf ByteArray.empty l0_1 (ji54)).size : Int) == 32) = true := beq_iff_eq.mpr c57
               have c57b1 : (((rdOf ByteArray.empty l0_1 (ji54)).size : Int) != 32) = false := bne_eq_false_iff_eq.mpr c57
               clear c57
               have H' := am_ H
               clear H
               have hnb58 := NB101_102.out
               have hnc58 := NB102_101.out
               have hcz59_0 : wr.cell? ⟨gb101, 0, none⟩ = some (.slice A0_0 l0_0.length c0_0) := (blk_cell BK101.out 0).trans rfl
               have hcz59_1 : wr.cell? ⟨gb101, 1, none⟩ = some (.slice A0_1 l0_1.length c0_1) := (blk_cell BK101.out 1).trans rfl
               have hcz59_2 : wr.cell? ⟨gb101, 2, none⟩ = some (.int .i64 a0_2) := (blk_cell BK101.out 2).trans rfl
               have hcz59_3 : wr.cell? ⟨gb101, 3, none⟩ = some (.int .i64 a0_3) := (blk_cell BK101.out 3).trans rfl
               have hcz59_4 : wr.cell? ⟨gb101, 4, none⟩ = some (.int .i64 a0_4) := (blk_cell BK101.out 4).trans rfl
               have hcz59_5 : wr.cell? ⟨gb101, 5, none⟩ = some (.slice A0_5 l0_5.length c0_5) := (blk_cell BK101.out 5).trans rfl
               have hfz59_0 := blk_frozen BK101.out 0
               have hfz59_1 := blk_frozen BK101.out 1
               have hfz59_2 := blk_frozen BK101.out 2
               have hfz59_3 := blk_frozen BK101.out 3
               have hfz59_4 := blk_frozen BK101.out 4
               have hfz59_5 := blk_frozen BK101.out 5
               have p107 : 0 ≤ (x7_2 : Int) := of_decide_eq_true qz2_
               have q107 : x7_2 < (l0_0.length : Int) := of_decide_eq_true qz2_
               obtain ⟨ad107, A107_0, c107_0, e107, hx107_0, hl107_0, hi107_0⟩ := at_L4 HR0_0.out x7_2 p107 q107
               cases e107
               replace hx107_0 := (HB.out.cell (World.block_lt_of_cell? w _ hx107_0)).trans hx107_0
               have HR107_0 := am_ hi107_0
               have HC107_0 := am_ hl107_0
               clear hi107_0 hl107_0
               replace p107 := eq_true p107
               replace q107 := eq_true q107
               have p108 : 0 ≤ (x7_2 : Int) := of_decide_eq_true qz2_
               have q108 : x7_2 < (l0_0.length : Int) := of_decide_eq_true qz2_
               obtain ⟨ad108, A108_0, c108_0, e108, hx108_0, hl108_0, hi108_0⟩ := at_L4 HR0_0.out x7_2 p108 q108
               obtain rfl : ad107 = ad108 := (by injection e108)
               replace hx108_0 := (HB.out.cell (World.block_lt_of_cell? w _ hx108_0)).trans hx108_0
               have HR108_0 := am_ hi108_0
               have HC108_0 := am_ hl108_0
               clear hi108_0 hl108_0
               replace p108 := eq_true p108
               replace q108 := eq_true q108
               have ea_ := Option.some.inj (hx107_0.symm.trans hx108_0)
               injection ea_ with ea_ en_ ec_
               subst ea_
               subst ec_
               clear en_
               go_wp2_with (first | (go_at_call 32; (with_reducible refine (spec_l02List.calls k2 _ _ (rd_L4 l0_0 x7_2) true _ ?side1 ?side2 A51.out).mono ?_); (case side1 => exact qc_ (Kd.C_below HR108_0.out HB.out)); (case side2 => exact HC108_0.out); rintro e w60 ⟨rfl, hb⟩; have n0_ := am_ (blk_below (g := gb101) (o := .cells #[.slice (some ad107) l0_0.length c0_0, .slice A0_1 l0_1.length c0_1, .int .i64 a0_2, .int .i64 a0_3, .int .i64 a0_4, .slice A0_5 l0_5.length c0_5] 47 (0, 0)) qz7_ hb); have n1_ := am_ (blk_below (g := gb102) (o := .cells #[.int .i64 a2_0, .int .i64 a2_1, .int .i64 a2_2] 49 (0, 0)) qz8_ hb); have n2_ := am_ (below_step qz9_ hb); clear BK101; clear BK102; clear HB; have BK101 := n0_; have BK102 := n1_; have HB := n2_; clear n0_ n1_ n2_; (try clear hb); (try clear hb2); (try clear hk); (try clear hi); have hcz61_0 : w60.cell? ⟨gb101, 0, none⟩ = some (.slice (some ad107) l0_0.length c0_0) := (blk_cell BK101.out 0).trans rfl; have hcz61_1 : w60.cell? ⟨gb101, 1, none⟩ = some (.slice A0_1 l0_1.length c0_1) := (blk_cell BK101.out 1).trans rfl; have hcz61_2 : w60.cell? ⟨gb101, 2, none⟩ = some (.int .i64 a0_2) := (blk_cell BK101.out 2).trans rfl; have hcz61_3 : w60.cell? ⟨gb101, 3, none⟩ = some (.int .i64 a0_3) := (blk_cell BK101.out 3).trans rfl; have hcz61_4 : w60.cell? ⟨gb101, 4, none⟩ = some (.int .i64 a0_4) := (blk_cell BK101.out 4).trans rfl; have hcz61_5 : w60.cell? ⟨gb101, 5, none⟩ = some (.slice A0_5 l0_5.length c0_5) := (blk_cell BK101.out 5).trans rfl; have hfz61_0 := blk_frozen BK101.out 0; have hfz61_1 := blk_frozen BK101.out 1; have hfz61_2 := blk_frozen BK101.out 2; have hfz61_3 := blk_frozen BK101.out 3; have hfz61_4 := blk_frozen BK101.out 4; have hfz61_5 := blk_frozen BK101.out 5; have p110 : 0 ≤ ((ji54) : Int) := of_decide_eq_true qz2_; have q110 : (ji54) < (l0_1.length : Int) := of_decide_eq_true qz2_; obtain ⟨ad110, e110, hx110_0⟩ := Kd.at_string HR0_1.out (ji54) p110 q110; cases e110; replace hx110_0 := (HB.out.cell (World.block_lt_of_cell? w _ hx110_0)).trans hx110_0; replace p110 := eq_true p110; replace q110 := eq_true q110))
               repeat (go_quiet (first | (go_at_call 32; (with_reducible refine (spec_l02List.calls k2 _ _ (rd_L4 l0_0 x7_2) true _ ?side1 ?side2 A51.out).mono ?_); (case side1 => exact qc_ (Kd.C_below HR108_0.out HB.out)); (case side2 => exact HC108_0.out); rintro e w60 ⟨rfl, hb⟩; have n0_ := am_ (blk_below (g := gb101) (o := .cells #[.slice (some ad107) l0_0.length c0_0, .slice A0_1 l0_1.length c0_1, .int .i64 a0_2, .int .i64 a0_3, .int .i64 a0_4, .slice A0_5 l0_5.length c0_5] 47 (0, 0)) qz7_ hb); have n1_ := am_ (blk_below (g := gb102) (o := .cells #[.int .i64 a2_0, .int .i64 a2_1, .int .i64 a2_2] 49 (0, 0)) qz8_ hb); have n2_ := am_ (below_step qz9_ hb); clear BK101; clear BK102; clear HB; have BK101 := n0_; have BK102 := n1_; have HB := n2_; clear n0_ n1_ n2_; (try clear hb); (try clear hb2); (try clear hk); (try clear hi); have hcz61_0 : w60.cell? ⟨gb101, 0, none⟩ = some (.slice (some ad107) l0_0.length c0_0) := (blk_cell BK101.out 0).trans rfl; have hcz61_1 : w60.cell? ⟨gb101, 1, none⟩ = some (.slice A0_1 l0_1.length c0_1) := (blk_cell BK101.out 1).trans rfl; have hcz61_2 : w60.cell? ⟨gb101, 2, none⟩ = some (.int .i64 a0_2) := (blk_cell BK101.out 2).trans rfl; have hcz61_3 : w60.cell? ⟨gb101, 3, none⟩ = some (.int .i64 a0_3) := (blk_cell BK101.out 3).trans rfl; have hcz61_4 : w60.cell? ⟨gb101, 4, none⟩ = some (.int .i64 a0_4) := (blk_cell BK101.out 4).trans rfl; have hcz61_5 : w60.cell? ⟨gb101, 5, none⟩ = some (.slice A0_5 l0_5.length c0_5) := (blk_cell BK101.out 5).trans rfl; have hfz61_0 := blk_frozen BK101.out 0; have hfz61_1 := blk_frozen BK101.out 1; have hfz61_2 := blk_frozen BK101.out 2; have hfz61_3 := blk_frozen BK101.out 3; have hfz61_4 := blk_frozen BK101.out 4; have hfz61_5 := blk_frozen BK101.out 5; have p110 : 0 ≤ ((ji54) : Int) := of_decide_eq_true qz2_; have q110 : (ji54) < (l0_1.length : Int) := of_decide_eq_true qz2_; obtain ⟨ad110, e110, hx110_0⟩ := Kd.at_string HR0_1.out (ji54) p110 q110; cases e110; replace hx110_0 := (HB.out.cell (World.block_lt_of_cell? w _ hx110_0)).trans hx110_0; replace p110 := eq_true p110; replace q110 := eq_true q110)); try go_wp2_with (first | (go_at_call 32; (with_reducible refine (spec_l02List.calls k2 _ _ (rd_L4 l0_0 x7_2) true _ ?side1 ?side2 A51.out).mono ?_); (case side1 => exact qc_ (Kd.C_below HR108_0.out HB.out)); (case side2 => exact HC108_0.out); rintro e w60 ⟨rfl, hb⟩; have n0_ := am_ (blk_below (g := gb101) (o := .cells #[.slice (some ad107) l0_0.length c0_0, .slice A0_1 l0_1.length c0_1, .int .i64 a0_2, .int .i64 a0_3, .int .i64 a0_4, .slice A0_5 l0_5.length c0_5] 47 (0, 0)) qz7_ hb); have n1_ := am_ (blk_below (g := gb102) (o := .cells #[.int .i64 a2_0, .int .i64 a2_1, .int .i64 a2_2] 49 (0, 0)) qz8_ hb); have n2_ := am_ (below_step qz9_ hb); clear BK101; clear BK102; clear HB; have BK101 := n0_; have BK102 := n1_; have HB := n2_; clear n0_ n1_ n2_; (try clear hb); (try clear hb2); (try clear hk); (try clear hi); have hcz61_0 : w60.cell? ⟨gb101, 0, none⟩ = some (.slice (some ad107) l0_0.length c0_0) := (blk_cell BK101.out 0).trans rfl; have hcz61_1 : w60.cell? ⟨gb101, 1, none⟩ = some (.slice A0_1 l0_1.length c0_1) := (blk_cell BK101.out 1).trans rfl; have hcz61_2 : w60.cell? ⟨gb101, 2, none⟩ = some (.int .i64 a0_2) := (blk_cell BK101.out 2).trans rfl; have hcz61_3 : w60.cell? ⟨gb101, 3, none⟩ = some (.int .i64 a0_3) := (blk_cell BK101.out 3).trans rfl; have hcz61_4 : w60.cell? ⟨gb101, 4, none⟩ = some (.int .i64 a0_4) := (blk_cell BK101.out 4).trans rfl; have hcz61_5 : w60.cell? ⟨gb101, 5, none⟩ = some (.slice A0_5 l0_5.length c0_5) := (blk_cell BK101.out 5).trans rfl; have hfz61_0 := blk_frozen BK101.out 0; have hfz61_1 := blk_frozen BK101.out 1; have hfz61_2 := blk_frozen BK101.out 2; have hfz61_3 := blk_frozen BK101.out 3; have hfz61_4 := blk_frozen BK101.out 4; have hfz61_5 := blk_frozen BK101.out 5; have p110 : 0 ≤ ((ji54) : Int) := of_decide_eq_true qz2_; have q110 : (ji54) < (l0_1.length : Int) := of_decide_eq_true qz2_; obtain ⟨ad110, e110, hx110_0⟩ := Kd.at_string HR0_1.out (ji54) p110 q110; cases e110; replace hx110_0 := (HB.out.cell (World.block_lt_of_cell? w _ hx110_0)).trans hx110_0; replace p110 := eq_true p110; replace q110 := eq_true q110)))
               go_roundg k2
               case measure => have := HJ3.out; have := HK2.out; omega
               case rel => exact ⟨(wrap64 (x7_2 + 1)), qz0_, H', ⟨(by have := HJ3.out; have := HK2.out; omega)⟩, ⟨qz7_⟩, ⟨qz8_⟩, ⟨qz9_⟩⟩
              ·
               rw [if_neg c57] at H
               have c57b0 : (((rdOf ByteArray.empty l0_1 (ji54)).size : Int) == 32) = false := beq_eq_false_iff_ne.mpr c57
               have c57b1 : (((rdOf ByteArray.empty l0_1 (ji54)).size : Int) != 32) = true := bne_iff_ne.mpr c57
               obtain rfl := Option.some.inj H
               have hnb62 := NB101_102.out
               have hnc62 := NB102_101.out
               have hcz63_0 : wr.cell? ⟨gb101, 0, none⟩ = some (.slice A0_0 l0_0.length c0_0) := (blk_cell BK101.out 0).trans rfl
               have hcz63_1 : wr.cell? ⟨gb101, 1, none⟩ = some (.slice A0_1 l0_1.length c0_1) := (blk_cell BK101.out 1).trans rfl
               have hcz63_2 : wr.cell? ⟨gb101, 2, none⟩ = some (.int .i64 a0_2) := (blk_cell BK101.out 2).trans rfl
               have hcz63_3 : wr.cell? ⟨gb101, 3, none⟩ = some (.int .i64 a0_3) := (blk_cell BK101.out 3).trans rfl
               have hcz63_4 : wr.cell? ⟨gb101, 4, none⟩ = some (.int .i64 a0_4) := (blk_cell BK101.out 4).trans rfl
               have hcz63_5 : wr.cell? ⟨gb101, 5, none⟩ = some (.slice A0_5 l0_5.length c0_5) := (blk_cell BK101.out 5).trans rfl
               have hfz63_0 := blk_frozen BK101.out 0
               have hfz63_1 := blk_frozen BK101.out 1
               have hfz63_2 := blk_frozen BK101.out 2
               have hfz63_3 := blk_frozen BK101.out 3
               have hfz63_4 := blk_frozen BK101.out 4
               have hfz63_5 := blk_frozen BK101.out 5
               have p107 : 0 ≤ (x7_2 : Int) := of_decide_eq_true qz2_
               have q107 : x7_2 < (l0_0.length : Int) := of_decide_eq_true qz2_
               obtain ⟨ad107, A107_0, c107_0, e107, hx107_0, hl107_0, hi107_0⟩ := at_L4 HR0_0.out x7_2 p107 q107
               cases e107
               replace hx107_0 := (HB.out.cell (World.block_lt_of_cell? w _ hx107_0)).trans hx107_0
               have HR107_0 := am_ hi107_0
               have HC107_0 := am_ hl107_0
               clear hi107_0 hl107_0
               replace p107 := eq_true p107
               replace q107 := eq_true q107
               have p108 : 0 ≤ (x7_2 : Int) := of_decide_eq_true qz2_
               have q108 : x7_2 < (l0_0.length : Int) := of_decide_eq_true qz2_
               obtain ⟨ad108, A108_0, c108_0, e108, hx108_0, hl108_0, hi108_0⟩ := at_L4 HR0_0.out x7_2 p108 q108
               obtain rfl : ad107 = ad108 := (by injection e108)
               replace hx108_0 := (HB.out.cell (World.block_lt_of_cell? w _ hx108_0)).trans hx108_0
               have HR108_0 := am_ hi108_0
               have HC108_0 := am_ hl108_0
               clear hi108_0 hl108_0
               replace p108 := eq_true p108
               replace q108 := eq_true q108
               have ea_ := Option.some.inj (hx107_0.symm.trans hx108_0)
               injection ea_ with ea_ en_ ec_
               subst ea_
               subst ec_
               clear en_
               go_wp2_with (first | (go_at_call 32; (with_reducible refine (spec_l02List.calls k2 _ _ (rd_L4 l0_0 x7_2) true _ ?side1 ?side2 A51.out).mono ?_); (case side1 => exact qc_ (Kd.C_below HR108_0.out HB.out)); (case side2 => exact HC108_0.out); rintro e w64 ⟨rfl, hb⟩; have n0_ := am_ (blk_below (g := gb101) (o := .cells #[.slice (some ad107) l0_0.length c0_0, .slice A0_1 l0_1.length c0_1, .int .i64 a0_2, .int .i64 a0_3, .int .i64 a0_4, .slice A0_5 l0_5.length c0_5] 47 (0, 0)) qz7_ hb); have n1_ := am_ (blk_below (g := gb102) (o := .cells #[.int .i64 a2_0, .int .i64 a2_1, .int .i64 a2_2] 49 (0, 0)) qz8_ hb); have n2_ := am_ (below_step qz9_ hb); clear BK101; clear BK102; clear HB; have BK101 := n0_; have BK102 := n1_; have HB := n2_; clear n0_ n1_ n2_; (try clear hb); (try clear hb2); (try clear hk); (try clear hi); have hcz65_0 : w64.cell? ⟨gb101, 0, none⟩ = some (.slice (some ad107) l0_0.length c0_0) := (blk_cell BK101.out 0).trans rfl; have hcz65_1 : w64.cell? ⟨gb101, 1, none⟩ = some (.slice A0_1 l0_1.length c0_1) := (blk_cell BK101.out 1).trans rfl; have hcz65_2 : w64.cell? ⟨gb101, 2, none⟩ = some (.int .i64 a0_2) := (blk_cell BK101.out 2).trans rfl; have hcz65_3 : w64.cell? ⟨gb101, 3, none⟩ = some (.int .i64 a0_3) := (blk_cell BK101.out 3).trans rfl; have hcz65_4 : w64.cell? ⟨gb101, 4, none⟩ = some (.int .i64 a0_4) := (blk_cell BK101.out 4).trans rfl; have hcz65_5 : w64.cell? ⟨gb101, 5, none⟩ = some (.slice A0_5 l0_5.length c0_5) := (blk_cell BK101.out 5).trans rfl; have hfz65_0 := blk_frozen BK101.out 0; have hfz65_1 := blk_frozen BK101.out 1; have hfz65_2 := blk_frozen BK101.out 2; have hfz65_3 := blk_frozen BK101.out 3; have hfz65_4 := blk_frozen BK101.out 4; have hfz65_5 := blk_frozen BK101.out 5; have p110 : 0 ≤ ((ji54) : Int) := of_decide_eq_true qz2_; have q110 : (ji54) < (l0_1.length : Int) := of_decide_eq_true qz2_; obtain ⟨ad110, e110, hx110_0⟩ := Kd.at_string HR0_1.out (ji54) p110 q110; cases e110; replace hx110_0 := (HB.out.cell (World.block_lt_of_cell? w _ hx110_0)).trans hx110_0; replace p110 := eq_true p110; replace q110 := eq_true q110))
               repeat (go_quiet (first | (go_at_call 32; (with_reducible refine (spec_l02List.calls k2 _ _ (rd_L4 l0_0 x7_2) true _ ?side1 ?side2 A51.out).mono ?_); (case side1 => exact qc_ (Kd.C_below HR108_0.out HB.out)); (case side2 => exact HC108_0.out); rintro e w64 ⟨rfl, hb⟩; have n0_ := am_ (blk_below (g := gb101) (o := .cells #[.slice (some ad107) l0_0.length c0_0, .slice A0_1 l0_1.length c0_1, .int .i64 a0_2, .int .i64 a0_3, .int .i64 a0_4, .slice A0_5 l0_5.length c0_5] 47 (0, 0)) qz7_ hb); have n1_ := am_ (blk_below (g := gb102) (o := .cells #[.int .i64 a2_0, .int .i64 a2_1, .int .i64 a2_2] 49 (0, 0)) qz8_ hb); have n2_ := am_ (below_step qz9_ hb); clear BK101; clear BK102; clear HB; have BK101 := n0_; have BK102 := n1_; have HB := n2_; clear n0_ n1_ n2_; (try clear hb); (try clear hb2); (try clear hk); (try clear hi); have hcz65_0 : w64.cell? ⟨gb101, 0, none⟩ = some (.slice (some ad107) l0_0.length c0_0) := (blk_cell BK101.out 0).trans rfl; have hcz65_1 : w64.cell? ⟨gb101, 1, none⟩ = some (.slice A0_1 l0_1.length c0_1) := (blk_cell BK101.out 1).trans rfl; have hcz65_2 : w64.cell? ⟨gb101, 2, none⟩ = some (.int .i64 a0_2) := (blk_cell BK101.out 2).trans rfl; have hcz65_3 : w64.cell? ⟨gb101, 3, none⟩ = some (.int .i64 a0_3) := (blk_cell BK101.out 3).trans rfl; have hcz65_4 : w64.cell? ⟨gb101, 4, none⟩ = some (.int .i64 a0_4) := (blk_cell BK101.out 4).trans rfl; have hcz65_5 : w64.cell? ⟨gb101, 5, none⟩ = some (.slice A0_5 l0_5.length c0_5) := (blk_cell BK101.out 5).trans rfl; have hfz65_0 := blk_frozen BK101.out 0; have hfz65_1 := blk_frozen BK101.out 1; have hfz65_2 := blk_frozen BK101.out 2; have hfz65_3 := blk_frozen BK101.out 3; have hfz65_4 := blk_frozen BK101.out 4; have hfz65_5 := blk_frozen BK101.out 5; have p110 : 0 ≤ ((ji54) : Int) := of_decide_eq_true qz2_; have q110 : (ji54) < (l0_1.length : Int) := of_decide_eq_true qz2_; obtain ⟨ad110, e110, hx110_0⟩ := Kd.at_string HR0_1.out (ji54) p110 q110; cases e110; replace hx110_0 := (HB.out.cell (World.block_lt_of_cell? w _ hx110_0)).trans hx110_0; replace p110 := eq_true p110; replace q110 := eq_true q110)); try go_wp2_with (first | (go_at_call 32; (with_reducible refine (spec_l02List.calls k2 _ _ (rd_L4 l0_0 x7_2) true _ ?side1 ?side2 A51.out).mono ?_); (case side1 => exact qc_ (Kd.C_below HR108_0.out HB.out)); (case side2 => exact HC108_0.out); rintro e w64 ⟨rfl, hb⟩; have n0_ := am_ (blk_below (g := gb101) (o := .cells #[.slice (some ad107) l0_0.length c0_0, .slice A0_1 l0_1.length c0_1, .int .i64 a0_2, .int .i64 a0_3, .int .i64 a0_4, .slice A0_5 l0_5.length c0_5] 47 (0, 0)) qz7_ hb); have n1_ := am_ (blk_below (g := gb102) (o := .cells #[.int .i64 a2_0, .int .i64 a2_1, .int .i64 a2_2] 49 (0, 0)) qz8_ hb); have n2_ := am_ (below_step qz9_ hb); clear BK101; clear BK102; clear HB; have BK101 := n0_; have BK102 := n1_; have HB := n2_; clear n0_ n1_ n2_; (try clear hb); (try clear hb2); (try clear hk); (try clear hi); have hcz65_0 : w64.cell? ⟨gb101, 0, none⟩ = some (.slice (some ad107) l0_0.length c0_0) := (blk_cell BK101.out 0).trans rfl; have hcz65_1 : w64.cell? ⟨gb101, 1, none⟩ = some (.slice A0_1 l0_1.length c0_1) := (blk_cell BK101.out 1).trans rfl; have hcz65_2 : w64.cell? ⟨gb101, 2, none⟩ = some (.int .i64 a0_2) := (blk_cell BK101.out 2).trans rfl; have hcz65_3 : w64.cell? ⟨gb101, 3, none⟩ = some (.int .i64 a0_3) := (blk_cell BK101.out 3).trans rfl; have hcz65_4 : w64.cell? ⟨gb101, 4, none⟩ = some (.int .i64 a0_4) := (blk_cell BK101.out 4).trans rfl; have hcz65_5 : w64.cell? ⟨gb101, 5, none⟩ = some (.slice A0_5 l0_5.length c0_5) := (blk_cell BK101.out 5).trans rfl; have hfz65_0 := blk_frozen BK101.out 0; have hfz65_1 := blk_frozen BK101.out 1; have hfz65_2 := blk_frozen BK101.out 2; have hfz65_3 := blk_frozen BK101.out 3; have hfz65_4 := blk_frozen BK101.out 4; have hfz65_5 := blk_frozen BK101.out 5; have p110 : 0 ≤ ((ji54) : Int) := of_decide_eq_true qz2_; have q110 : (ji54) < (l0_1.length : Int) := of_decide_eq_true qz2_; obtain ⟨ad110, e110, hx110_0⟩ := Kd.at_string HR0_1.out (ji54) p110 q110; cases e110; replace hx110_0 := (HB.out.cell (World.block_lt_of_cell? w _ hx110_0)).trans hx110_0; replace p110 := eq_true p110; replace q110 := eq_true q110)))
               go_ret
               exact ⟨(by first | rfl | (simp [errW_none, errW_some] <;> rfl) | (simp only [← hji54]; first | rfl | (simp [errW_none, errW_some] <;> rfl)) | (simp [*, errW_none, errW_some] <;> rfl)), qz9_⟩
             ·
              rw [if_neg c56] at H
              exact absurd H (by simp)
            ·
             rw [if_neg c55] at H
             exact absurd H (by simp)
           ·
            rw [if_neg c53] at H
            have c53b0 : decide (0 < x7_2) = false := decide_eq_false c53
            clear c53
            have H' := am_ H
            clear H
            have hnb66 := NB101_102.out
            have hnc66 := NB102_101.out
            have hcz67_0 : wr.cell? ⟨gb101, 0, none⟩ = some (.slice A0_0 l0_0.length c0_0) := (blk_cell BK101.out 0).trans rfl
            have hcz67_1 : wr.cell? ⟨gb101, 1, none⟩ = some (.slice A0_1 l0_1.length c0_1) := (blk_cell BK101.out 1).trans rfl
            have hcz67_2 : wr.cell? ⟨gb101, 2, none⟩ = some (.int .i64 a0_2) := (blk_cell BK101.out 2).trans rfl
            have hcz67_3 : wr.cell? ⟨gb101, 3, none⟩ = some (.int .i64 a0_3) := (blk_cell BK101.out 3).trans rfl
            have hcz67_4 : wr.cell? ⟨gb101, 4, none⟩ = some (.int .i64 a0_4) := (blk_cell BK101.out 4).trans rfl
            have hcz67_5 : wr.cell? ⟨gb101, 5, none⟩ = some (.slice A0_5 l0_5.length c0_5) := (blk_cell BK101.out 5).trans rfl
            have hfz67_0 := blk_frozen BK101.out 0
            have hfz67_1 := blk_frozen BK101.out 1
            have hfz67_2 := blk_frozen BK101.out 2
            have hfz67_3 := blk_frozen BK101.out 3
            have hfz67_4 := blk_frozen BK101.out 4
            have hfz67_5 := blk_frozen BK101.out 5
            have p107 : 0 ≤ (x7_2 : Int) := of_decide_eq_true qz2_
            have q107 : x7_2 < (l0_0.length : Int) := of_decide_eq_true qz2_
            obtain ⟨ad107, A107_0, c107_0, e107, hx107_0, hl107_0, hi107_0⟩ := at_L4 HR0_0.out x7_2 p107 q107
            cases e107
            replace hx107_0 := (HB.out.cell (World.block_lt_of_cell? w _ hx107_0)).trans hx107_0
            have HR107_0 := am_ hi107_0
            have HC107_0 := am_ hl107_0
            clear hi107_0 hl107_0
            replace p107 := eq_true p107
            replace q107 := eq_true q107
            have p108 : 0 ≤ (x7_2 : Int) := of_decide_eq_true qz2_
            have q108 : x7_2 < (l0_0.length : Int) := of_decide_eq_true qz2_
            obtain ⟨ad108, A108_0, c108_0, e108, hx108_0, hl108_0, hi108_0⟩ := at_L4 HR0_0.out x7_2 p108 q108
            obtain rfl : ad107 = ad108 := (by injection e108)
            replace hx108_0 := (HB.out.cell (World.block_lt_of_cell? w _ hx108_0)).trans hx108_0
            have HR108_0 := am_ hi108_0
            have HC108_0 := am_ hl108_0
            clear hi108_0 hl108_0
            replace p108 := eq_true p108
            replace q108 := eq_true q108
            have ea_ := Option.some.inj (hx107_0.symm.trans hx108_0)
            injection ea_ with ea_ en_ ec_
            subst ea_
            subst ec_
            clear en_
            go_wp2_with (first | (go_at_call 32; (with_reducible refine (spec_l02List.calls k2 _ _ (rd_L4 l0_0 x7_2) true _ ?side1 ?side2 A51.out).mono ?_); (case side1 => exact qc_ (Kd.C_below HR108_0.out HB.out)); (case side2 => exact HC108_0.out); rintro e w68 ⟨rfl, hb⟩; have n0_ := am_ (blk_below (g := gb101) (o := .cells #[.slice (some ad107) l0_0.length c0_0, .slice A0_1 l0_1.length c0_1, .int .i64 a0_2, .int .i64 a0_3, .int .i64 a0_4, .slice A0_5 l0_5.length c0_5] 47 (0, 0)) qz7_ hb); have n1_ := am_ (blk_below (g := gb102) (o := .cells #[.int .i64 a2_0, .int .i64 a2_1, .int .i64 a2_2] 49 (0, 0)) qz8_ hb); have n2_ := am_ (below_step qz9_ hb); clear BK101; clear BK102; clear HB; have BK101 := n0_; have BK102 := n1_; have HB := n2_; clear n0_ n1_ n2_; (try clear hb); (try clear hb2); (try clear hk); (try clear hi)))
            repeat (go_quiet (first | (go_at_call 32; (with_reducible refine (spec_l02List.calls k2 _ _ (rd_L4 l0_0 x7_2) true _ ?side1 ?side2 A51.out).mono ?_); (case side1 => exact qc_ (Kd.C_below HR108_0.out HB.out)); (case side2 => exact HC108_0.out); rintro e w68 ⟨rfl, hb⟩; have n0_ := am_ (blk_below (g := gb101) (o := .cells #[.slice (some ad107) l0_0.length c0_0, .slice A0_1 l0_1.length c0_1, .int .i64 a0_2, .int .i64 a0_3, .int .i64 a0_4, .slice A0_5 l0_5.length c0_5] 47 (0, 0)) qz7_ hb); have n1_ := am_ (blk_below (g := gb102) (o := .cells #[.int .i64 a2_0, .int .i64 a2_1, .int .i64 a2_2] 49 (0, 0)) qz8_ hb); have n2_ := am_ (below_step qz9_ hb); clear BK101; clear BK102; clear HB; have BK101 := n0_; have BK102 := n1_; have HB := n2_; clear n0_ n1_ n2_; (try clear hb); (try clear hb2); (try clear hk); (try clear hi))); try go_wp2_with (first | (go_at_call 32; (with_reducible refine (spec_l02List.calls k2 _ _ (rd_L4 l0_0 x7_2) true _ ?side1 ?side2 A51.out).mono ?_); (case side1 => exact qc_ (Kd.C_below HR108_0.out HB.out)); (case side2 => exact HC108_0.out); rintro e w68 ⟨rfl, hb⟩; have n0_ := am_ (blk_below (g := gb101) (o := .cells #[.slice (some ad107) l0_0.length c0_0, .slice A0_1 l0_1.length c0_1, .int .i64 a0_2, .int .i64 a0_3, .int .i64 a0_4, .slice A0_5 l0_5.length c0_5] 47 (0, 0)) qz7_ hb); have n1_ := am_ (blk_below (g := gb102) (o := .cells #[.int .i64 a2_0, .int .i64 a2_1, .int .i64 a2_2] 49 (0, 0)) qz8_ hb); have n2_ := am_ (below_step qz9_ hb); clear BK101; clear BK102; clear HB; have BK101 := n0_; have BK102 := n1_; have HB := n2_; clear n0_ n1_ n2_; (try clear hb); (try clear hb2); (try clear hk); (try clear hi))))
            go_roundg k2
            case measure => have := HJ3.out; have := HK2.out; omega
            case rel => exact ⟨(wrap64 (x7_2 + 1)), qz0_, H', ⟨(by have := HJ3.out; have := HK2.out; omega)⟩, ⟨qz7_⟩, ⟨qz8_⟩, ⟨qz9_⟩⟩
          ·
           replace c52 := Bool.eq_false_iff.mpr c52
           subst c52
           have H1 : (some false) = some r := by rw [if_neg (show ¬ (false = true) by decide)] at H; exact H
           clear H
           have H := H1
           clear H1
           obtain rfl := Option.some.inj H
           have hnb69 := NB101_102.out
           have hnc69 := NB102_101.out
           have hcz70_0 : wr.cell? ⟨gb101, 0, none⟩ = some (.slice A0_0 l0_0.length c0_0) := (blk_cell BK101.out 0).trans rfl
           have hcz70_1 : wr.cell? ⟨gb101, 1, none⟩ = some (.slice A0_1 l0_1.length c0_1) := (blk_cell BK101.out 1).trans rfl
           have hcz70_2 : wr.cell? ⟨gb101, 2, none⟩ = some (.int .i64 a0_2) := (blk_cell BK101.out 2).trans rfl
           have hcz70_3 : wr.cell? ⟨gb101, 3, none⟩ = some (.int .i64 a0_3) := (blk_cell BK101.out 3).trans rfl
           have hcz70_4 : wr.cell? ⟨gb101, 4, none⟩ = some (.int .i64 a0_4) := (blk_cell BK101.out 4).trans rfl
           have hcz70_5 : wr.cell? ⟨gb101, 5, none⟩ = some (.slice A0_5 l0_5.length c0_5) := (blk_cell BK101.out 5).trans rfl
           have hfz70_0 := blk_frozen BK101.out 0
           have hfz70_1 := blk_frozen BK101.out 1
           have hfz70_2 := blk_frozen BK101.out 2
           have hfz70_3 := blk_frozen BK101.out 3
           have hfz70_4 := blk_frozen BK101.out 4
           have hfz70_5 := blk_frozen BK101.out 5
           have p107 : 0 ≤ (x7_2 : Int) := of_decide_eq_true qz2_
           have q107 : x7_2 < (l0_0.length : Int) := of_decide_eq_true qz2_
           obtain ⟨ad107, A107_0, c107_0, e107, hx107_0, hl107_0, hi107_0⟩ := at_L4 HR0_0.out x7_2 p107 q107
           cases e107
           replace hx107_0 := (HB.out.cell (World.block_lt_of_cell? w _ hx107_0)).trans hx107_0
           have HR107_0 := am_ hi107_0
           have HC107_0 := am_ hl107_0
           clear hi107_0 hl107_0
           replace p107 := eq_true p107
           replace q107 := eq_true q107
           have p108 : 0 ≤ (x7_2 : Int) := of_decide_eq_true qz2_
           have q108 : x7_2 < (l0_0.length : Int) := of_decide_eq_true qz2_
           obtain ⟨ad108, A108_0, c108_0, e108, hx108_0, hl108_0, hi108_0⟩ := at_L4 HR0_0.out x7_2 p108 q108
           obtain rfl : ad107 = ad108 := (by injection e108)
           replace hx108_0 := (HB.out.cell (World.block_lt_of_cell? w _ hx108_0)).trans hx108_0
           have HR108_0 := am_ hi108_0
           have HC108_0 := am_ hl108_0
           clear hi108_0 hl108_0
           replace p108 := eq_true p108
           replace q108 := eq_true q108
           have ea_ := Option.some.inj (hx107_0.symm.trans hx108_0)
           injection ea_ with ea_ en_ ec_
           subst ea_
           subst ec_
           clear en_
           go_wp2_with (first | (go_at_call 32; (with_reducible refine (spec_l02List.calls k2 _ _ (rd_L4 l0_0 x7_2) false _ ?side1 ?side2 A51.out).mono ?_); (case side1 => exact qc_ (Kd.C_below HR108_0.out HB.out)); (case side2 => exact HC108_0.out); rintro e w71 ⟨rfl, hb⟩; have n0_ := am_ (blk_below (g := gb101) (o := .cells #[.slice (some ad107) l0_0.length c0_0, .slice A0_1 l0_1.length c0_1, .int .i64 a0_2, .int .i64 a0_3, .int .i64 a0_4, .slice A0_5 l0_5.length c0_5] 47 (0, 0)) qz7_ hb); have n1_ := am_ (blk_below (g := gb102) (o := .cells #[.int .i64 a2_0, .int .i64 a2_1, .int .i64 a2_2] 49 (0, 0)) qz8_ hb); have n2_ := am_ (below_step qz9_ hb); clear BK101; clear BK102; clear HB; have BK101 := n0_; have BK102 := n1_; have HB := n2_; clear n0_ n1_ n2_; (try clear hb); (try clear hb2); (try clear hk); (try clear hi)))
           repeat (go_quiet (first | (go_at_call 32; (with_reducible refine (spec_l02List.calls k2 _ _ (rd_L4 l0_0 x7_2) false _ ?side1 ?side2 A51.out).mono ?_); (case side1 => exact qc_ (Kd.C_below HR108_0.out HB.out)); (case side2 => exact HC108_0.out); rintro e w71 ⟨rfl, hb⟩; have n0_ := am_ (blk_below (g := gb101) (o := .cells #[.slice (some ad107) l0_0.length c0_0, .slice A0_1 l0_1.length c0_1, .int .i64 a0_2, .int .i64 a0_3, .int .i64 a0_4, .slice A0_5 l0_5.length c0_5] 47 (0, 0)) qz7_ hb); have n1_ := am_ (blk_below (g := gb102) (o := .cells #[.int .i64 a2_0, .int .i64 a2_1, .int .i64 a2_2] 49 (0, 0)) qz8_ hb); have n2_ := am_ (below_step qz9_ hb); clear BK101; clear BK102; clear HB; have BK101 := n0_; have BK102 := n1_; have HB := n2_; clear n0_ n1_ n2_; (try clear hb); (try clear hb2); (try clear hk); (try clear hi))); try go_wp2_with (first | (go_at_call 32; (with_reducible refine (spec_l02List.calls k2 _ _ (rd_L4 l0_0 x7_2) false _ ?side1 ?side2 A51.out).mono ?_); (case side1 => exact qc_ (Kd.C_below HR108_0.out HB.out)); (case side2 => exact HC108_0.out); rintro e w71 ⟨rfl, hb⟩; have n0_ := am_ (blk_below (g := gb101) (o := .cells #[.slice (some ad107) l0_0.length c0_0, .slice A0_1 l0_1.length c0_1, .int .i64 a0_2, .int .i64 a0_3, .int .i64 a0_4, .slice A0_5 l0_5.length c0_5] 47 (0, 0)) qz7_ hb); have n1_ := am_ (blk_below (g := gb102) (o := .cells #[.int .i64 a2_0, .int .i64 a2_1, .int .i64 a2_2] 49 (0, 0)) qz8_ hb); have n2_ := am_ (below_step qz9_ hb); clear BK101; clear BK102; clear HB; have BK101 := n0_; have BK102 := n1_; have HB := n2_; clear n0_ n1_ n2_; (try clear hb); (try clear hb2); (try clear hk); (try clear hi))))
           go_ret
           exact ⟨qz5_, qz9_⟩
         ·
          rw [if_neg c50] at H
          have c50b0 : (((rd_L4 l0_0 x7_2).length : Int) == 3) = false := beq_eq_false_iff_ne.mpr c50
          have c50b1 : (((rd_L4 l0_0 x7_2).length : Int) != 3) = true := bne_iff_ne.mpr c50
          obtain rfl := Option.some.inj H
          have hnb72 := NB101_102.out
          have hnc72 := NB102_101.out
          have hcz73_0 : wr.cell? ⟨gb101, 0, none⟩ = some (.slice A0_0 l0_0.length c0_0) := (blk_cell BK101.out 0).trans rfl
          have hcz73_1 : wr.cell? ⟨gb101, 1, none⟩ = some (.slice A0_1 l0_1.length c0_1) := (blk_cell BK101.out 1).trans rfl
          have hcz73_2 : wr.cell? ⟨gb101, 2, none⟩ = some (.int .i64 a0_2) := (blk_cell BK101.out 2).trans rfl
          have hcz73_3 : wr.cell? ⟨gb101, 3, none⟩ = some (.int .i64 a0_3) := (blk_cell BK101.out 3).trans rfl
          have hcz73_4 : wr.cell? ⟨gb101, 4, none⟩ = some (.int .i64 a0_4) := (blk_cell BK101.out 4).trans rfl
          have hcz73_5 : wr.cell? ⟨gb101, 5, none⟩ = some (.slice A0_5 l0_5.length c0_5) := (blk_cell BK101.out 5).trans rfl
          have hfz73_0 := blk_frozen BK101.out 0
          have hfz73_1 := blk_frozen BK101.out 1
          have hfz73_2 := blk_frozen BK101.out 2
          have hfz73_3 := blk_frozen BK101.out 3
          have hfz73_4 := blk_frozen BK101.out 4
          have hfz73_5 := blk_frozen BK101.out 5
          have p107 : 0 ≤ (x7_2 : Int) := of_decide_eq_true qz2_
          have q107 : x7_2 < (l0_0.length : Int) := of_decide_eq_true qz2_
          obtain ⟨ad107, A107_0, c107_0, e107, hx107_0, hl107_0, hi107_0⟩ := at_L4 HR0_0.out x7_2 p107 q107
          cases e107
          replace hx107_0 := (HB.out.cell (World.block_lt_of_cell? w _ hx107_0)).trans hx107_0
          have HR107_0 := am_ hi107_0
          have HC107_0 := am_ hl107_0
          clear hi107_0 hl107_0
          replace p107 := eq_true p107
          replace q107 := eq_true q107
          go_wp2
          repeat (go_quiet (fail); try go_wp2)
          go_ret
          exact ⟨qz5_, qz9_⟩
        ·
         rw [if_neg c49] at H
         exact absurd H (by simp)
       ·
        rw [if_neg c48] at H
        exact absurd H (by simp)
      ·
       rw [if_neg c47] at H
       have c47b0 : decide (x7_2 < a1) = false := decide_eq_false c47
       clear c47
       have H' := am_ H
       clear H
       go_wp2
       repeat (go_quiet (fail); try go_wp2)
       go_loopg [8] k2 (fun kq v8 w' => ∃ (x8_3 : Int), v8 = .int .i64 x8_3 ∧ Aside0 (spec_OpeningOK.l1 kq a1 x8_3 l0_0 l0_1 a0_2 a0_3 a0_4 l0_5 a2_0 a2_1 a2_2 = some r) ∧ Aside0 (kq ≤ k2) ∧ Aside0 (w'.heap[gb101]? = some (.cells #[(.slice A0_0 l0_0.length c0_0), (.slice A0_1 l0_1.length c0_1), .int .i64 a0_2, .int .i64 a0_3, .int .i64 a0_4, (.slice A0_5 l0_5.length c0_5)] 47 (0, 0))) ∧ Aside0 (w'.heap[gb102]? = some (.cells #[.int .i64 a2_0, .int .i64 a2_1, .int .i64 a2_2] 49 (0, 0))) ∧ Aside0 (Below w.heap.size w w'))
       case atStart => exact ⟨(0), qz0_, H', ⟨Nat.le_refl _⟩, ⟨qz7_⟩, ⟨qz8_⟩, ⟨qz9_⟩⟩
       case round =>
        clear H'
        (try clear c1); (try clear p1); (try clear q1); (try clear hx1); (try clear c2); (try clear p2); (try clear c3); (try clear c4); (try clear c5); (try clear c6); (try clear p6); (try clear c7); (try clear c8); (try clear c10); (try clear p10); (try clear q10); (try clear hx10); (try clear c11); (try clear c11b0); (try clear c11b1); (try clear p11); (try clear q11); (try clear hx11); (try clear c12)
        (try clear c12b0); (try clear c12b1); (try clear c13); (try clear c13b0); (try clear c13b1); (try clear c15); (try clear c17); (try clear c24); (try clear c30); (try clear c35); (try clear c39); (try clear c43); (try clear c46); (try clear c47); (try clear c47b0); (try clear c48); (try clear c48b0); (try clear c49); (try clear c49b0); (try clear c50); (try clear c50b0); (try clear c50b1)
        (try clear c52); (try clear c53); (try clear c53b0); (try clear c55); (try clear c55b0); (try clear c56); (try clear c56b0); (try clear c57); (try clear c57b0); (try clear c57b1); (try clear c58); (try clear c62); (try clear p64); (try clear c66); (try clear c69); (try clear c72); (try clear hcz18_0); (try clear hcz18_1); (try clear hcz18_2); (try clear hcz20_0); (try clear hcz20_1)
        (try clear hcz20_2); (try clear hcz20_3); (try clear hcz20_4); (try clear hcz20_5); (try clear hcz21_0); (try clear hcz21_1); (try clear hcz21_2); (try clear hcz23_0); (try clear hcz23_1); (try clear hcz23_2); (try clear hcz23_3); (try clear hcz23_4); (try clear hcz23_5); (try clear hcz25_0); (try clear hcz25_1); (try clear hcz25_2); (try clear hcz27_0); (try clear hcz27_1); (try clear hcz27_2)
        (try clear hcz27_3); (try clear hcz27_4); (try clear hcz27_5); (try clear hcz28_0); (try clear hcz28_1); (try clear hcz28_2); (try clear hcz31_0); (try clear hcz31_1); (try clear hcz31_2); (try clear hcz33_0); (try clear hcz33_1); (try clear hcz33_2); (try clear hcz33_3); (try clear hcz33_4); (try clear hcz33_5); (try clear hcz34_0); (try clear hcz34_1); (try clear hcz34_2); (try clear hcz36_0)
        (try clear hcz36_1); (try clear hcz36_2); (try clear hcz38_0); (try clear hcz38_1); (try clear hcz38_2); (try clear hcz38_3); (try clear hcz38_4); (try clear hcz38_5); (try clear hcz40_0); (try clear hcz40_1); (try clear hcz40_2); (try clear hcz42_0); (try clear hcz42_1); (try clear hcz42_2); (try clear hcz42_3); (try clear hcz42_4); (try clear hcz42_5); (try clear hcz44_0); (try clear hcz44_1)
        (try clear hcz44_2); (try clear hcz59_0); (try clear hcz59_1); (try clear hcz59_2); (try clear hcz59_3); (try clear hcz59_4); (try clear hcz59_5); (try clear hcz61_0); (try clear hcz61_1); (try clear hcz61_2); (try clear hcz61_3); (try clear hcz61_4); (try clear hcz61_5); (try clear hcz63_0); (try clear hcz63_1); (try clear hcz63_2); (try clear hcz63_3); (try clear hcz63_4); (try clear hcz63_5)
        (try clear hcz65_0); (try clear hcz65_1); (try clear hcz65_2); (try clear hcz65_3); (try clear hcz65_4); (try clear hcz65_5); (try clear hcz67_0); (try clear hcz67_1); (try clear hcz67_2); (try clear hcz67_3); (try clear hcz67_4); (try clear hcz67_5); (try clear hcz70_0); (try clear hcz70_1); (try clear hcz70_2); (try clear hcz70_3); (try clear hcz70_4); (try clear hcz70_5); (try clear hcz73_0)
        (try clear hcz73_1); (try clear hcz73_2); (try clear hcz73_3); (try clear hcz73_4); (try clear hcz73_5); (try clear hfz18_0); (try clear hfz18_1); (try clear hfz18_2); (try clear hfz20_0); (try clear hfz20_1); (try clear hfz20_2); (try clear hfz20_3); (try clear hfz20_4); (try clear hfz20_5); (try clear hfz21_0); (try clear hfz21_1); (try clear hfz21_2); (try clear hfz23_0); (try clear hfz23_1)
        (try clear hfz23_2); (try clear hfz23_3); (try clear hfz23_4); (try clear hfz23_5); (try clear hfz25_0); (try clear hfz25_1); (try clear hfz25_2); (try clear hfz27_0); (try clear hfz27_1); (try clear hfz27_2); (try clear hfz27_3); (try clear hfz27_4); (try clear hfz27_5); (try clear hfz28_0); (try clear hfz28_1); (try clear hfz28_2); (try clear hfz31_0); (try clear hfz31_1); (try clear hfz31_2)
        (try clear hfz33_0); (try clear hfz33_1); (try clear hfz33_2); (try clear hfz33_3); (try clear hfz33_4); (try clear hfz33_5); (try clear hfz34_0); (try clear hfz34_1); (try clear hfz34_2); (try clear hfz36_0); (try clear hfz36_1); (try clear hfz36_2); (try clear hfz38_0); (try clear hfz38_1); (try clear hfz38_2); (try clear hfz38_3); (try clear hfz38_4); (try clear hfz38_5); (try clear hfz40_0)
        (try clear hfz40_1); (try clear hfz40_2); (try clear hfz42_0); (try clear hfz42_1); (try clear hfz42_2); (try clear hfz42_3); (try clear hfz42_4); (try clear hfz42_5); (try clear hfz44_0); (try clear hfz44_1); (try clear hfz44_2); (try clear hfz59_0); (try clear hfz59_1); (try clear hfz59_2); (try clear hfz59_3); (try clear hfz59_4); (try clear hfz59_5); (try clear hfz61_0); (try clear hfz61_1)
        (try clear hfz61_2); (try clear hfz61_3); (try clear hfz61_4); (try clear hfz61_5); (try clear hfz63_0); (try clear hfz63_1); (try clear hfz63_2); (try clear hfz63_3); (try clear hfz63_4); (try clear hfz63_5); (try clear hfz65_0); (try clear hfz65_1); (try clear hfz65_2); (try clear hfz65_3); (try clear hfz65_4); (try clear hfz65_5); (try clear hfz67_0); (try clear hfz67_1); (try clear hfz67_2)
        (try clear hfz67_3); (try clear hfz67_4); (try clear hfz67_5); (try clear hfz70_0); (try clear hfz70_1); (try clear hfz70_2); (try clear hfz70_3); (try clear hfz70_4); (try clear hfz70_5); (try clear hfz73_0); (try clear hfz73_1); (try clear hfz73_2); (try clear hfz73_3); (try clear hfz73_4); (try clear hfz73_5); (try clear hx107_0); (try clear hx108_0); (try clear hx110_0); (try clear p107)
        (try clear p108); (try clear p110); (try clear p2); (try clear p6); (try clear q107); (try clear q108); (try clear q110)
        obtain ⟨x8_3, rfl, HA, HK3, BK101, BK102, HB⟩ := hrel
        cases gk with
        | zero => exact absurd HA.out (by simp [spec_OpeningOK.l1])
        | succ k3 =>
         have H := HA.out
         clear HA
         simp only [spec_OpeningOK.l1] at H
         by_cases c74 : x8_3 < (l0_5.length : Int)
         ·
          rw [if_pos c74] at H
          have c74b0 : decide (x8_3 < (l0_5.length : Int)) = true := decide_eq_true c74
          clear c74
          by_cases c75 : 0 ≤ x8_3
          ·
           rw [if_pos c75] at H
           have c75b0 : decide (0 ≤ x8_3) = true := decide_eq_true c75
           clear c75
           have HC76 := am_ H
           clear H
           have hnb77 := NB101_102.out
           have hnc77 := NB102_101.out
           have hcz78_0 : wr.cell? ⟨gb101, 0, none⟩ = some (.slice A0_0 l0_0.length c0_0) := (blk_cell BK101.out 0).trans rfl
           have hcz78_1 : wr.cell? ⟨gb101, 1, none⟩ = some (.slice A0_1 l0_1.length c0_1) := (blk_cell BK101.out 1).trans rfl
           have hcz78_2 : wr.cell? ⟨gb101, 2, none⟩ = some (.int .i64 a0_2) := (blk_cell BK101.out 2).trans rfl
           have hcz78_3 : wr.cell? ⟨gb101, 3, none⟩ = some (.int .i64 a0_3) := (blk_cell BK101.out 3).trans rfl
           have hcz78_4 : wr.cell? ⟨gb101, 4, none⟩ = some (.int .i64 a0_4) := (blk_cell BK101.out 4).trans rfl
           have hcz78_5 : wr.cell? ⟨gb101, 5, none⟩ = some (.slice A0_5 l0_5.length c0_5) := (blk_cell BK101.out 5).trans rfl
           have hfz78_0 := blk_frozen BK101.out 0
           have hfz78_1 := blk_frozen BK101.out 1
           have hfz78_2 := blk_frozen BK101.out 2
           have hfz78_3 := blk_frozen BK101.out 3
           have hfz78_4 := blk_frozen BK101.out 4
           have hfz78_5 := blk_frozen BK101.out 5
           have p111 : 0 ≤ (x8_3 : Int) := of_decide_eq_true qz2_
           have q111 : x8_3 < (l0_5.length : Int) := of_decide_eq_true qz2_
           obtain ⟨ad111, A111_0, c111_0, A111_1, c111_1, e111, hx111_0, hx111_1, hl111_0, hi111_0, hl111_1, hi111_1⟩ := at_T67 HR0_5.out x8_3 p111 q111
           cases e111
           replace hx111_0 := (HB.out.cell (World.block_lt_of_cell? w _ hx111_0)).trans hx111_0
           replace hx111_1 := (HB.out.cell (World.block_lt_of_cell? w _ hx111_1)).trans hx111_1
           have HR111_0 := am_ hi111_0
           have HC111_0 := am_ hl111_0
           clear hi111_0 hl111_0
           have HR111_1 := am_ hi111_1
           have HC111_1 := am_ hl111_1
           clear hi111_1 hl111_1
           replace p111 := eq_true p111
           replace q111 := eq_true q111
           go_upto_region 12 with (first | ((with_reducible refine gate_dst (N := 9) rfl ?_); (try (refine gate_guard (by rfl) ?_; dsimp only)); refine box_event ?hg (N := 9) ?hd (cs := #[.slice none 0 0, .slice none 0 0]) (t := 67) ?hr ?_; (case hd => rfl); (case hg => rfl); (case hr => first | (go_simp; done) | (go_simp; rfl)); intro gb112 hg w79 hbox hb; have n0_ := am_ (blk_below (g := gb101) (o := .cells #[.slice A0_0 l0_0.length c0_0, .slice A0_1 l0_1.length c0_1, .int .i64 a0_2, .int .i64 a0_3, .int .i64 a0_4, .slice (some ad111) l0_5.length c0_5] 47 (0, 0)) qz7_ hb); have n1_ := am_ (blk_below (g := gb102) (o := .cells #[.int .i64 a2_0, .int .i64 a2_1, .int .i64 a2_2] 49 (0, 0)) qz8_ hb); have n2_ := am_ (below_step qz9_ hb); have n3_ := am_ (hbox); have n4_ := am_ ((by rw [hg]; exact (below_size qz9_) : w.heap.size ≤ gb112)); have n5_ := am_ ((by rw [hg]; exact (below_size qz9_) : w.heap.size ≤ gb112)); have n6_ := am_ ((by rw [hg]; exact Nat.ne_of_lt (blk_lt (g := gb101) (o := .cells #[.slice A0_0 l0_0.length c0_0, .slice A0_1 l0_1.length c0_1, .int .i64 a0_2, .int .i64 a0_3, .int .i64 a0_4, .slice (some ad111) l0_5.length c0_5] 47 (0, 0)) qz7_) : gb101 ≠ gb112)); have n7_ := am_ ((by rw [hg]; exact Nat.ne_of_gt (blk_lt (g := gb101) (o := .cells #[.slice A0_0 l0_0.length c0_0, .slice A0_1 l0_1.length c0_1, .int .i64 a0_2, .int .i64 a0_3, .int .i64 a0_4, .slice (some ad111) l0_5.length c0_5] 47 (0, 0)) qz7_) : gb112 ≠ gb101)); have n8_ := am_ ((by rw [hg]; exact Nat.ne_of_lt (blk_lt (g := gb102) (o := .cells #[.int .i64 a2_0, .int .i64 a2_1, .int .i64 a2_2] 49 (0, 0)) qz8_) : gb102 ≠ gb112)); have n9_ := am_ ((by rw [hg]; exact Nat.ne_of_gt (blk_lt (g := gb102) (o := .cells #[.int .i64 a2_0, .int .i64 a2_1, .int .i64 a2_2] 49 (0, 0)) qz8_) : gb112 ≠ gb102)); clear BK101; clear BK102; clear HB; have BK101 := n0_; have BK102 := n1_; have HB := n2_; have BK112 := n3_; have GW112 := n4_; have GE112 := n5_; have NB101_112 := n6_; have NB112_101 := n7_; have NB102_112 := n8_; have NB112_102 := n9_; clear n0_ n1_ n2_ n3_ n4_ n5_ n6_ n7_ n8_ n9_; clear hb hbox hg; have hnb80 := NB112_101.out; have hnc80 := NB101_112.out; have hnb81 := NB112_102.out; have hnc81 := NB102_112.out; have hcz82_0 : w79.cell? ⟨gb112, 0, none⟩ = some (.slice none 0 0) := (blk_cell BK112.out 0).trans rfl; have hcz82_1 : w79.cell? ⟨gb112, 1, none⟩ = some (.slice none 0 0) := (blk_cell BK112.out 1).trans rfl; have hfz82_0 := blk_frozen BK112.out 0; have hfz82_1 := blk_frozen BK112.out 1))
           repeat (go_quiet (fail); go_upto_region 12 with (first | ((with_reducible refine gate_dst (N := 9) rfl ?_); (try (refine gate_guard (by rfl) ?_; dsimp only)); refine box_event ?hg (N := 9) ?hd (cs := #[.slice none 0 0, .slice none 0 0]) (t := 67) ?hr ?_; (case hd => rfl); (case hg => rfl); (case hr => first | (go_simp; done) | (go_simp; rfl)); intro gb112 hg w79 hbox hb; have n0_ := am_ (blk_below (g := gb101) (o := .cells #[.slice A0_0 l0_0.length c0_0, .slice A0_1 l0_1.length c0_1, .int .i64 a0_2, .int .i64 a0_3, .int .i64 a0_4, .slice (some ad111) l0_5.length c0_5] 47 (0, 0)) qz7_ hb); have n1_ := am_ (blk_below (g := gb102) (o := .cells #[.int .i64 a2_0, .int .i64 a2_1, .int .i64 a2_2] 49 (0, 0)) qz8_ hb); have n2_ := am_ (below_step qz9_ hb); have n3_ := am_ (hbox); have n4_ := am_ ((by rw [hg]; exact (below_size qz9_) : w.heap.size ≤ gb112)); have n5_ := am_ ((by rw [hg]; exact (below_size qz9_) : w.heap.size ≤ gb112)); have n6_ := am_ ((by rw [hg]; exact Nat.ne_of_lt (blk_lt (g := gb101) (o := .cells #[.slice A0_0 l0_0.length c0_0, .slice A0_1 l0_1.length c0_1, .int .i64 a0_2, .int .i64 a0_3, .int .i64 a0_4, .slice (some ad111) l0_5.length c0_5] 47 (0, 0)) qz7_) : gb101 ≠ gb112)); have n7_ := am_ ((by rw [hg]; exact Nat.ne_of_gt (blk_lt (g := gb101) (o := .cells #[.slice A0_0 l0_0.length c0_0, .slice A0_1 l0_1.length c0_1, .int .i64 a0_2, .int .i64 a0_3, .int .i64 a0_4, .slice (some ad111) l0_5.length c0_5] 47 (0, 0)) qz7_) : gb112 ≠ gb101)); have n8_ := am_ ((by rw [hg]; exact Nat.ne_of_lt (blk_lt (g := gb102) (o := .cells #[.int .i64 a2_0, .int .i64 a2_1, .int .i64 a2_2] 49 (0, 0)) qz8_) : gb102 ≠ gb112)); have n9_ := am_ ((by rw [hg]; exact Nat.ne_of_gt (blk_lt (g := gb102) (o := .cells #[.int .i64 a2_0, .int .i64 a2_1, .int .i64 a2_2] 49 (0, 0)) qz8_) : gb112 ≠ gb102)); clear BK101; clear BK102; clear HB; have BK101 := n0_; have BK102 := n1_; have HB := n2_; have BK112 := n3_; have GW112 := n4_; have GE112 := n5_; have NB101_112 := n6_; have NB112_101 := n7_; have NB102_112 := n8_; have NB112_102 := n9_; clear n0_ n1_ n2_ n3_ n4_ n5_ n6_ n7_ n8_ n9_; clear hb hbox hg; have hnb80 := NB112_101.out; have hnc80 := NB101_112.out; have hnb81 := NB112_102.out; have hnc81 := NB102_112.out; have hcz82_0 : w79.cell? ⟨gb112, 0, none⟩ = some (.slice none 0 0) := (blk_cell BK112.out 0).trans rfl; have hcz82_1 : w79.cell? ⟨gb112, 1, none⟩ = some (.slice none 0 0) := (blk_cell BK112.out 1).trans rfl; have hfz82_0 := blk_frozen BK112.out 0; have hfz82_1 := blk_frozen BK112.out 1)))
           (try simp only [Act.put, List.setIfInBounds_toArray, List.set_cons_zero, List.set_cons_succ])
           go_cut [120] (fun v120 wc => ∃ (kq : Nat) (x120_75 : Bool), v120 = .bool x120_75 ∧ Aside0 (spec_OpeningOK.j3 kq a1 x8_3 x120_75 l0_0 l0_1 a0_2 a0_3 a0_4 l0_5 a2_0 a2_1 a2_2 ((rd_T67 l0_5 x8_3).f0) ((rd_T67 l0_5 x8_3).f1) = some r) ∧ Aside0 (kq ≤ k3) ∧ Aside0 (wc.heap[gb101]? = some (.cells #[(.slice A0_0 l0_0.length c0_0), (.slice A0_1 l0_1.length c0_1), .int .i64 a0_2, .int .i64 a0_3, .int .i64 a0_4, (.slice (some ad111) l0_5.length c0_5)] 47 (0, 0))) ∧ Aside0 (wc.heap[gb102]? = some (.cells #[.int .i64 a2_0, .int .i64 a2_1, .int .i64 a2_2] 49 (0, 0))) ∧ Aside0 (wc.heap[gb112]? = some (.cells #[(.slice A111_0 ((rd_T67 l0_5 x8_3).f0).length c111_0), (.slice A111_1 ((rd_T67 l0_5 x8_3).f1).length c111_1)] 67 (0, 0))) ∧ Aside0 (Below w.heap.size w wc))
           case first =>
            have H := HC76.out
            clear HC76
            by_cases c83 : (((rd_T67 l0_5 x8_3).f0).length : Int) = (wrap64 (2 * a1))
            ·
             rw [if_pos c83] at H
             have c83b0 : ((((rd_T67 l0_5 x8_3).f0).length : Int) == (wrap64 (2 * a1))) = true := beq_iff_eq.mpr c83
             have c83b1 : ((((rd_T67 l0_5 x8_3).f0).length : Int) != (wrap64 (2 * a1))) = false := bne_eq_false_iff_eq.mpr c83
             clear c83
             (first | rw [c83b0] | (simp only [i64_w, i32_w]; rw [c83b0]) | skip)
             replace H := Option.bind_eq_some_iff.mp H
             obtain ⟨t113, A840, H⟩ := H
             replace H : (if t113 = true then (spec_OpeningOK.j3 k3 a1 x8_3 ((((rd_T67 l0_5 x8_3).f1).length : Int) != a1) l0_0 l0_1 a0_2 a0_3 a0_4 l0_5 a2_0 a2_1 a2_2 ((rd_T67 l0_5 x8_3).f0) ((rd_T67 l0_5 x8_3).f1)) else (spec_OpeningOK.j3 k3 a1 x8_3 true l0_0 l0_1 a0_2 a0_3 a0_4 l0_5 a2_0 a2_1 a2_2 ((rd_T67 l0_5 x8_3).f0) ((rd_T67 l0_5 x8_3).f1))) = some r := H
             have A84 := am_ A840
             clear A840
             by_cases c85 : t113 = true
             ·
              subst c85
              have H1 : (spec_OpeningOK.j3 k3 a1 x8_3 ((((rd_T67 l0_5 x8_3).f1).length : Int) != a1) l0_0 l0_1 a0_2 a0_3 a0_4 l0_5 a2_0 a2_1 a2_2 ((rd_T67 l0_5 x8_3).f0) ((rd_T67 l0_5 x8_3).f1)) = some r := by rw [if_pos rfl] at H; exact H
              clear H
              have H := H1
              clear H1
              have H' := am_ H
              clear H
              have hnb86 := NB112_101.out
              have hnc86 := NB101_112.out
              have hnb87 := NB112_102.out
              have hnc87 := NB102_112.out
              have hcz88_0 : w79.cell? ⟨gb112, 0, none⟩ = some (.slice none 0 0) := (blk_cell BK112.out 0).trans rfl
              have hcz88_1 : w79.cell? ⟨gb112, 1, none⟩ = some (.slice none 0 0) := (blk_cell BK112.out 1).trans rfl
              have hfz88_0 := blk_frozen BK112.out 0
              have hfz88_1 := blk_frozen BK112.out 1
              go_wp2_with (first | (go_at_call 32; (with_reducible refine (spec_l02List.calls k3 _ _ ((rd_T67 l0_5 x8_3).f0) true _ ?side1 ?side2 A84.out).mono ?_); (case side1 => exact Kd.C_below HR111_0.out qz10_); (case side2 => exact HC111_0.out); rintro e w89 ⟨rfl, hb⟩; have n0_ := am_ (blk_below (g := gb101) (o := .cells #[.slice A0_0 l0_0.length c0_0, .slice A0_1 l0_1.length c0_1, .int .i64 a0_2, .int .i64 a0_3, .int .i64 a0_4, .slice (some ad111) l0_5.length c0_5] 47 (0, 0)) qz11_ hb); have n1_ := am_ (blk_below (g := gb102) (o := .cells #[.int .i64 a2_0, .int .i64 a2_1, .int .i64 a2_2] 49 (0, 0)) qz12_ hb); have n2_ := am_ (blk_below (g := gb112) (o := .cells #[.slice A111_0 ((rd_T67 l0_5 x8_3).f0).length c111_0, .slice A111_1 ((rd_T67 l0_5 x8_3).f1).length c111_1] 67 (0, 0)) qz13_ hb); have n3_ := am_ (below_step qz10_ hb); clear BK101; clear BK102; clear BK112; clear HB; have BK101 := n0_; have BK102 := n1_; have BK112 := n2_; have HB := n3_; clear n0_ n1_ n2_ n3_; (try clear hb); (try clear hb2); (try clear hk); (try clear hi); have hcz90_0 : w89.cell? ⟨gb112, 0, none⟩ = some (.slice A111_0 ((rd_T67 l0_5 x8_3).f0).length c111_0) := (blk_cell BK112.out 0).trans rfl; have hcz90_1 : w89.cell? ⟨gb112, 1, none⟩ = some (.slice A111_1 ((rd_T67 l0_5 x8_3).f1).length c111_1) := (blk_cell BK112.out 1).trans rfl; have hfz90_0 := blk_frozen BK112.out 0; have hfz90_1 := blk_frozen BK112.out 1))
              repeat (go_quiet (first | (go_at_call 32; (with_reducible refine (spec_l02List.calls k3 _ _ ((rd_T67 l0_5 x8_3).f0) true _ ?side1 ?side2 A84.out).mono ?_); (case side1 => exact Kd.C_below HR111_0.out qz10_); (case side2 => exact HC111_0.out); rintro e w89 ⟨rfl, hb⟩; have n0_ := am_ (blk_below (g := gb101) (o := .cells #[.slice A0_0 l0_0.length c0_0, .slice A0_1 l0_1.length c0_1, .int .i64 a0_2, .int .i64 a0_3, .int .i64 a0_4, .slice (some ad111) l0_5.length c0_5] 47 (0, 0)) qz11_ hb); have n1_ := am_ (blk_below (g := gb102) (o := .cells #[.int .i64 a2_0, .int .i64 a2_1, .int .i64 a2_2] 49 (0, 0)) qz12_ hb); have n2_ := am_ (blk_below (g := gb112) (o := .cells #[.slice A111_0 ((rd_T67 l0_5 x8_3).f0).length c111_0, .slice A111_1 ((rd_T67 l0_5 x8_3).f1).length c111_1] 67 (0, 0)) qz13_ hb); have n3_ := am_ (below_step qz10_ hb); clear BK101; clear BK102; clear BK112; clear HB; have BK101 := n0_; have BK102 := n1_; have BK112 := n2_; have HB := n3_; clear n0_ n1_ n2_ n3_; (try clear hb); (try clear hb2); (try clear hk); (try clear hi); have hcz90_0 : w89.cell? ⟨gb112, 0, none⟩ = some (.slice A111_0 ((rd_T67 l0_5 x8_3).f0).length c111_0) := (blk_cell BK112.out 0).trans rfl; have hcz90_1 : w89.cell? ⟨gb112, 1, none⟩ = some (.slice A111_1 ((rd_T67 l0_5 x8_3).f1).length c111_1) := (blk_cell BK112.out 1).trans rfl; have hfz90_0 := blk_frozen BK112.out 0; have hfz90_1 := blk_frozen BK112.out 1)); try go_wp2_with (first | (go_at_call 32; (with_reducible refine (spec_l02List.calls k3 _ _ ((rd_T67 l0_5 x8_3).f0) true _ ?side1 ?side2 A84.out).mono ?_); (case side1 => exact Kd.C_below HR111_0.out qz10_); (case side2 => exact HC111_0.out); rintro e w89 ⟨rfl, hb⟩; have n0_ := am_ (blk_below (g := gb101) (o := .cells #[.slice A0_0 l0_0.length c0_0, .slice A0_1 l0_1.length c0_1, .int .i64 a0_2, .int .i64 a0_3, .int .i64 a0_4, .slice (some ad111) l0_5.length c0_5] 47 (0, 0)) qz11_ hb); have n1_ := am_ (blk_below (g := gb102) (o := .cells #[.int .i64 a2_0, .int .i64 a2_1, .int .i64 a2_2] 49 (0, 0)) qz12_ hb); have n2_ := am_ (blk_below (g := gb112) (o := .cells #[.slice A111_0 ((rd_T67 l0_5 x8_3).f0).length c111_0, .slice A111_1 ((rd_T67 l0_5 x8_3).f1).length c111_1] 67 (0, 0)) qz13_ hb); have n3_ := am_ (below_step qz10_ hb); clear BK101; clear BK102; clear BK112; clear HB; have BK101 := n0_; have BK102 := n1_; have BK112 := n2_; have HB := n3_; clear n0_ n1_ n2_ n3_; (try clear hb); (try clear hb2); (try clear hk); (try clear hi); have hcz90_0 : w89.cell? ⟨gb112, 0, none⟩ = some (.slice A111_0 ((rd_T67 l0_5 x8_3).f0).length c111_0) := (blk_cell BK112.out 0).trans rfl; have hcz90_1 : w89.cell? ⟨gb112, 1, none⟩ = some (.slice A111_1 ((rd_T67 l0_5 x8_3).f1).length c111_1) := (blk_cell BK112.out 1).trans rfl; have hfz90_0 := blk_frozen BK112.out 0; have hfz90_1 := blk_frozen BK112.out 1)))
              go_meet
              case rel => exact ⟨_, (((((rd_T67 l0_5 x8_3).f1).length : Int) != a1)), qz0_, H', ⟨(by have := HJ3.out; have := HK2.out; have := HK3.out; first | omega | exact Nat.le_refl _)⟩, ⟨qz7_⟩, ⟨qz8_⟩, ⟨qz14_⟩, ⟨qz10_⟩⟩
             ·
              replace c85 := Bool.eq_false_iff.mpr c85
              subst c85
              have H1 : (spec_OpeningOK.j3 k3 a1 x8_3 true l0_0 l0_1 a0_2 a0_3 a0_4 l0_5 a2_0 a2_1 a2_2 ((rd_T67 l0_5 x8_3).f0) ((rd_T67 l0_5 x8_3).f1)) = some r := by rw [if_neg (show ¬ (false = true) by decide)] at H; exact H
              clear H
              have H := H1
              clear H1
              have H' := am_ H
              clear H
              have hnb91 := NB112_101.out
              have hnc91 := NB101_112.out
              have hnb92 := NB112_102.out
              have hnc92 := NB102_112.out
              have hcz93_0 : w79.cell? ⟨gb112, 0, none⟩ = some (.slice none 0 0) := (blk_cell BK112.out 0).trans rfl
              have hcz93_1 : w79.cell? ⟨gb112, 1, none⟩ = some (.slice none 0 0) := (blk_cell BK112.out 1).trans rfl
              have hfz93_0 := blk_frozen BK112.out 0
              have hfz93_1 := blk_frozen BK112.out 1
              go_wp2_with (first | (go_at_call 32; (with_reducible refine (spec_l02List.calls k3 _ _ ((rd_T67 l0_5 x8_3).f0) false _ ?side1 ?side2 A84.out).mono ?_); (case side1 => exact Kd.C_below HR111_0.out qz10_); (case side2 => exact HC111_0.out); rintro e w94 ⟨rfl, hb⟩; have n0_ := am_ (blk_below (g := gb101) (o := .cells #[.slice A0_0 l0_0.length c0_0, .slice A0_1 l0_1.length c0_1, .int .i64 a0_2, .int .i64 a0_3, .int .i64 a0_4, .slice (some ad111) l0_5.length c0_5] 47 (0, 0)) qz11_ hb); have n1_ := am_ (blk_below (g := gb102) (o := .cells #[.int .i64 a2_0, .int .i64 a2_1, .int .i64 a2_2] 49 (0, 0)) qz12_ hb); have n2_ := am_ (blk_below (g := gb112) (o := .cells #[.slice A111_0 ((rd_T67 l0_5 x8_3).f0).length c111_0, .slice A111_1 ((rd_T67 l0_5 x8_3).f1).length c111_1] 67 (0, 0)) qz13_ hb); have n3_ := am_ (below_step qz10_ hb); clear BK101; clear BK102; clear BK112; clear HB; have BK101 := n0_; have BK102 := n1_; have BK112 := n2_; have HB := n3_; clear n0_ n1_ n2_ n3_; (try clear hb); (try clear hb2); (try clear hk); (try clear hi)))
              repeat (go_quiet (first | (go_at_call 32; (with_reducible refine (spec_l02List.calls k3 _ _ ((rd_T67 l0_5 x8_3).f0) false _ ?side1 ?side2 A84.out).mono ?_); (case side1 => exact Kd.C_below HR111_0.out qz10_); (case side2 => exact HC111_0.out); rintro e w94 ⟨rfl, hb⟩; have n0_ := am_ (blk_below (g := gb101) (o := .cells #[.slice A0_0 l0_0.length c0_0, .slice A0_1 l0_1.length c0_1, .int .i64 a0_2, .int .i64 a0_3, .int .i64 a0_4, .slice (some ad111) l0_5.length c0_5] 47 (0, 0)) qz11_ hb); have n1_ := am_ (blk_below (g := gb102) (o := .cells #[.int .i64 a2_0, .int .i64 a2_1, .int .i64 a2_2] 49 (0, 0)) qz12_ hb); have n2_ := am_ (blk_below (g := gb112) (o := .cells #[.slice A111_0 ((rd_T67 l0_5 x8_3).f0).length c111_0, .slice A111_1 ((rd_T67 l0_5 x8_3).f1).length c111_1] 67 (0, 0)) qz13_ hb); have n3_ := am_ (below_step qz10_ hb); clear BK101; clear BK102; clear BK112; clear HB; have BK101 := n0_; have BK102 := n1_; have BK112 := n2_; have HB := n3_; clear n0_ n1_ n2_ n3_; (try clear hb); (try clear hb2); (try clear hk); (try clear hi))); try go_wp2_with (first | (go_at_call 32; (with_reducible refine (spec_l02List.calls k3 _ _ ((rd_T67 l0_5 x8_3).f0) false _ ?side1 ?side2 A84.out).mono ?_); (case side1 => exact Kd.C_below HR111_0.out qz10_); (case side2 => exact HC111_0.out); rintro e w94 ⟨rfl, hb⟩; have n0_ := am_ (blk_below (g := gb101) (o := .cells #[.slice A0_0 l0_0.length c0_0, .slice A0_1 l0_1.length c0_1, .int .i64 a0_2, .int .i64 a0_3, .int .i64 a0_4, .slice (some ad111) l0_5.length c0_5] 47 (0, 0)) qz11_ hb); have n1_ := am_ (blk_below (g := gb102) (o := .cells #[.int .i64 a2_0, .int .i64 a2_1, .int .i64 a2_2] 49 (0, 0)) qz12_ hb); have n2_ := am_ (blk_below (g := gb112) (o := .cells #[.slice A111_0 ((rd_T67 l0_5 x8_3).f0).length c111_0, .slice A111_1 ((rd_T67 l0_5 x8_3).f1).length c111_1] 67 (0, 0)) qz13_ hb); have n3_ := am_ (below_step qz10_ hb); clear BK101; clear BK102; clear BK112; clear HB; have BK101 := n0_; have BK102 := n1_; have BK112 := n2_; have HB := n3_; clear n0_ n1_ n2_ n3_; (try clear hb); (try clear hb2); (try clear hk); (try clear hi))))
              go_meet
              case rel => exact ⟨_, (true), qz0_, H', ⟨(by have := HJ3.out; have := HK2.out; have := HK3.out; first | omega | exact Nat.le_refl _)⟩, ⟨qz7_⟩, ⟨qz8_⟩, ⟨qz14_⟩, ⟨qz10_⟩⟩
            ·
             rw [if_neg c83] at H
             have c83b0 : ((((rd_T67 l0_5 x8_3).f0).length : Int) == (wrap64 (2 * a1))) = false := beq_eq_false_iff_ne.mpr c83
             have c83b1 : ((((rd_T67 l0_5 x8_3).f0).length : Int) != (wrap64 (2 * a1))) = true := bne_iff_ne.mpr c83
             (first | rw [c83b0] | (simp only [i64_w, i32_w]; rw [c83b0]) | skip)
             have H' := am_ H
             clear H
             have hnb95 := NB112_101.out
             have hnc95 := NB101_112.out
             have hnb96 := NB112_102.out
             have hnc96 := NB102_112.out
             have hcz97_0 : w79.cell? ⟨gb112, 0, none⟩ = some (.slice none 0 0) := (blk_cell BK112.out 0).trans rfl
             have hcz97_1 : w79.cell? ⟨gb112, 1, none⟩ = some (.slice none 0 0) := (blk_cell BK112.out 1).trans rfl
             have hfz97_0 := blk_frozen BK112.out 0
             have hfz97_1 := blk_frozen BK112.out 1
             go_wp2
             repeat (go_quiet (fail); try go_wp2)
             go_meet
             case rel => exact ⟨_, (true), qz0_, H', ⟨(by have := HJ3.out; have := HK2.out; have := HK3.out; first | omega | exact Nat.le_refl _)⟩, ⟨qz11_⟩, ⟨qz12_⟩, ⟨qz13_⟩, ⟨qz10_⟩⟩
           case rest =>
            clear HC76
            (try clear c1); (try clear p1); (try clear q1); (try clear hx1); (try clear c2); (try clear p2); (try clear c3); (try clear c4); (try clear c5); (try clear c6); (try clear p6); (try clear c7); (try clear c8); (try clear c9); (try clear c10); (try clear p10); (try clear q10); (try clear hx10); (try clear c11); (try clear c11b0); (try clear c11b1); (try clear p11); (try clear q11)
            (try clear hx11); (try clear c12); (try clear c12b0); (try clear c12b1); (try clear c13); (try clear c13b0); (try clear c13b1); (try clear c15); (try clear c17); (try clear c24); (try clear c30); (try clear c35); (try clear c39); (try clear c43); (try clear c46); (try clear c47); (try clear c47b0); (try clear c48); (try clear c48b0); (try clear c49); (try clear c49b0); (try clear c50)
            (try clear c50b0); (try clear c50b1); (try clear c52); (try clear c53); (try clear c53b0); (try clear c55); (try clear c55b0); (try clear c56); (try clear c56b0); (try clear c57); (try clear c57b0); (try clear c57b1); (try clear c58); (try clear c62); (try clear p64); (try clear c66); (try clear c69); (try clear c72); (try clear c74); (try clear c74b0); (try clear c75); (try clear c75b0)
            (try clear c77); (try clear c80); (try clear c81); (try clear c83); (try clear c83b0); (try clear c83b1); (try clear c85); (try clear c86); (try clear c87); (try clear c91); (try clear c92); (try clear c95); (try clear c96); (try clear hcz18_0); (try clear hcz18_1); (try clear hcz18_2); (try clear hcz20_0); (try clear hcz20_1); (try clear hcz20_2); (try clear hcz20_3); (try clear hcz20_4)
            (try clear hcz20_5); (try clear hcz21_0); (try clear hcz21_1); (try clear hcz21_2); (try clear hcz23_0); (try clear hcz23_1); (try clear hcz23_2); (try clear hcz23_3); (try clear hcz23_4); (try clear hcz23_5); (try clear hcz25_0); (try clear hcz25_1); (try clear hcz25_2); (try clear hcz27_0); (try clear hcz27_1); (try clear hcz27_2); (try clear hcz27_3); (try clear hcz27_4)
            (try clear hcz27_5); (try clear hcz28_0); (try clear hcz28_1); (try clear hcz28_2); (try clear hcz31_0); (try clear hcz31_1); (try clear hcz31_2); (try clear hcz33_0); (try clear hcz33_1); (try clear hcz33_2); (try clear hcz33_3); (try clear hcz33_4); (try clear hcz33_5); (try clear hcz34_0); (try clear hcz34_1); (try clear hcz34_2); (try clear hcz36_0); (try clear hcz36_1)
            (try clear hcz36_2); (try clear hcz38_0); (try clear hcz38_1); (try clear hcz38_2); (try clear hcz38_3); (try clear hcz38_4); (try clear hcz38_5); (try clear hcz40_0); (try clear hcz40_1); (try clear hcz40_2); (try clear hcz42_0); (try clear hcz42_1); (try clear hcz42_2); (try clear hcz42_3); (try clear hcz42_4); (try clear hcz42_5); (try clear hcz44_0); (try clear hcz44_1)
            (try clear hcz44_2); (try clear hcz59_0); (try clear hcz59_1); (try clear hcz59_2); (try clear hcz59_3); (try clear hcz59_4); (try clear hcz59_5); (try clear hcz61_0); (try clear hcz61_1); (try clear hcz61_2); (try clear hcz61_3); (try clear hcz61_4); (try clear hcz61_5); (try clear hcz63_0); (try clear hcz63_1); (try clear hcz63_2); (try clear hcz63_3); (try clear hcz63_4)
            (try clear hcz63_5); (try clear hcz65_0); (try clear hcz65_1); (try clear hcz65_2); (try clear hcz65_3); (try clear hcz65_4); (try clear hcz65_5); (try clear hcz67_0); (try clear hcz67_1); (try clear hcz67_2); (try clear hcz67_3); (try clear hcz67_4); (try clear hcz67_5); (try clear hcz70_0); (try clear hcz70_1); (try clear hcz70_2); (try clear hcz70_3); (try clear hcz70_4)
            (try clear hcz70_5); (try clear hcz73_0); (try clear hcz73_1); (try clear hcz73_2); (try clear hcz73_3); (try clear hcz73_4); (try clear hcz73_5); (try clear hcz78_0); (try clear hcz78_1); (try clear hcz78_2); (try clear hcz78_3); (try clear hcz78_4); (try clear hcz78_5); (try clear hcz82_0); (try clear hcz82_1); (try clear hcz88_0); (try clear hcz88_1); (try clear hcz90_0)
            (try clear hcz90_1); (try clear hcz93_0); (try clear hcz93_1); (try clear hcz97_0); (try clear hcz97_1); (try clear hfz18_0); (try clear hfz18_1); (try clear hfz18_2); (try clear hfz20_0); (try clear hfz20_1); (try clear hfz20_2); (try clear hfz20_3); (try clear hfz20_4); (try clear hfz20_5); (try clear hfz21_0); (try clear hfz21_1); (try clear hfz21_2); (try clear hfz23_0)
            (try clear hfz23_1); (try clear hfz23_2); (try clear hfz23_3); (try clear hfz23_4); (try clear hfz23_5); (try clear hfz25_0); (try clear hfz25_1); (try clear hfz25_2); (try clear hfz27_0); (try clear hfz27_1); (try clear hfz27_2); (try clear hfz27_3); (try clear hfz27_4); (try clear hfz27_5); (try clear hfz28_0); (try clear hfz28_1); (try clear hfz28_2); (try clear hfz31_0)
            (try clear hfz31_1); (try clear hfz31_2); (try clear hfz33_0); (try clear hfz33_1); (try clear hfz33_2); (try clear hfz33_3); (try clear hfz33_4); (try clear hfz33_5); (try clear hfz34_0); (try clear hfz34_1); (try clear hfz34_2); (try clear hfz36_0); (try clear hfz36_1); (try clear hfz36_2); (try clear hfz38_0); (try clear hfz38_1); (try clear hfz38_2); (try clear hfz38_3)
            (try clear hfz38_4); (try clear hfz38_5); (try clear hfz40_0); (try clear hfz40_1); (try clear hfz40_2); (try clear hfz42_0); (try clear hfz42_1); (try clear hfz42_2); (try clear hfz42_3); (try clear hfz42_4); (try clear hfz42_5); (try clear hfz44_0); (try clear hfz44_1); (try clear hfz44_2); (try clear hfz59_0); (try clear hfz59_1); (try clear hfz59_2); (try clear hfz59_3)
            (try clear hfz59_4); (try clear hfz59_5); (try clear hfz61_0); (try clear hfz61_1); (try clear hfz61_2); (try clear hfz61_3); (try clear hfz61_4); (try clear hfz61_5); (try clear hfz63_0); (try clear hfz63_1); (try clear hfz63_2); (try clear hfz63_3); (try clear hfz63_4); (try clear hfz63_5); (try clear hfz65_0); (try clear hfz65_1); (try clear hfz65_2); (try clear hfz65_3)
            (try clear hfz65_4); (try clear hfz65_5); (try clear hfz67_0); (try clear hfz67_1); (try clear hfz67_2); (try clear hfz67_3); (try clear hfz67_4); (try clear hfz67_5); (try clear hfz70_0); (try clear hfz70_1); (try clear hfz70_2); (try clear hfz70_3); (try clear hfz70_4); (try clear hfz70_5); (try clear hfz73_0); (try clear hfz73_1); (try clear hfz73_2); (try clear hfz73_3)
            (try clear hfz73_4); (try clear hfz73_5); (try clear hfz78_0); (try clear hfz78_1); (try clear hfz78_2); (try clear hfz78_3); (try clear hfz78_4); (try clear hfz78_5); (try clear hfz82_0); (try clear hfz82_1); (try clear hfz88_0); (try clear hfz88_1); (try clear hfz90_0); (try clear hfz90_1); (try clear hfz93_0); (try clear hfz93_1); (try clear hfz97_0); (try clear hfz97_1)
            (try clear hx107_0); (try clear hx108_0); (try clear hx110_0); (try clear hx111_0); (try clear hx111_1); (try clear p1); (try clear p10); (try clear p107); (try clear p108); (try clear p11); (try clear p110); (try clear p111); (try clear p2); (try clear p6); (try clear p64); (try clear q1); (try clear q10); (try clear q107); (try clear q108); (try clear q11); (try clear q110)
            (try clear q111)
            obtain ⟨kq, x120_75, rfl, HA, HJ75, BK101, BK102, BK112, HB⟩ := hcut
            cases kq with
            | zero => exact absurd HA.out (by simp [spec_OpeningOK.j3])
            | succ kj75 =>
             have H := HA.out
             clear HA
             simp only [spec_OpeningOK.j3] at H
             by_cases c98 : x120_75 = true
             ·
              subst c98
              have H1 : (some false) = some r := by rw [if_pos rfl] at H; exact H
              clear H
              have H := H1
              clear H1
              obtain rfl := Option.some.inj H
              go_wp2
              repeat (go_quiet (fail); try go_wp2)
              go_ret
              exact ⟨qz5_, qz10_⟩
             ·
              replace c98 := Bool.eq_false_iff.mpr c98
              subst c98
              have H1 : (spec_OpeningOK.l2 kj75 a1 x8_3 0 l0_0 l0_1 a0_2 a0_3 a0_4 l0_5 a2_0 a2_1 a2_2 ((rd_T67 l0_5 x8_3).f0) ((rd_T67 l0_5 x8_3).f1)) = some r := by rw [if_neg (show ¬ (false = true) by decide)] at H; exact H
              clear H
              have H := H1
              clear H1
              have H' := am_ H
              clear H
              go_wp2
              repeat (go_quiet (fail); try go_wp2)
              go_loopg [10] kj75 (fun kq v10 w' => ∃ (x10_5 : Int), v10 = .int .i64 x10_5 ∧ Aside0 (spec_OpeningOK.l2 kq a1 x8_3 x10_5 l0_0 l0_1 a0_2 a0_3 a0_4 l0_5 a2_0 a2_1 a2_2 ((rd_T67 l0_5 x8_3).f0) ((rd_T67 l0_5 x8_3).f1) = some r) ∧ Aside0 (kq ≤ kj75) ∧ Aside0 (w'.heap[gb101]? = some (.cells #[(.slice A0_0 l0_0.length c0_0), (.slice A0_1 l0_1.length c0_1), .int .i64 a0_2, .int .i64 a0_3, .int .i64 a0_4, (.slice (some ad111) l0_5.length c0_5)] 47 (0, 0))) ∧ Aside0 (w'.heap[gb102]? = some (.cells #[.int .i64 a2_0, .int .i64 a2_1, .int .i64 a2_2] 49 (0, 0))) ∧ Aside0 (w'.heap[gb112]? = some (.cells #[(.slice A111_0 ((rd_T67 l0_5 x8_3).f0).length c111_0), (.slice A111_1 ((rd_T67 l0_5 x8_3).f1).length c111_1)] 67 (0, 0))) ∧ Aside0 (Below w.heap.size w w'))
              case atStart => exact ⟨(0), qz0_, H', ⟨Nat.le_refl _⟩, ⟨qz7_⟩, ⟨qz8_⟩, ⟨qz14_⟩, ⟨qz10_⟩⟩
              case round =>
               clear H'
               (try clear c1); (try clear p1); (try clear q1); (try clear hx1); (try clear c2); (try clear p2); (try clear c3); (try clear c4); (try clear c5); (try clear c6); (try clear p6); (try clear c7); (try clear c8); (try clear c9); (try clear c10); (try clear p10); (try clear q10); (try clear hx10); (try clear c11); (try clear c11b0); (try clear c11b1); (try clear p11); (try clear q11)
               (try clear hx11); (try clear c12); (try clear c12b0); (try clear c12b1); (try clear c13); (try clear c13b0); (try clear c13b1); (try clear c15); (try clear c17); (try clear c24); (try clear c30); (try clear c35); (try clear c39); (try clear c43); (try clear c46); (try clear c47); (try clear c47b0); (try clear c48); (try clear c48b0); (try clear c49); (try clear c49b0)
               (try clear c50); (try clear c50b0); (try clear c50b1); (try clear c52); (try clear c53); (try clear c53b0); (try clear c55); (try clear c55b0); (try clear c56); (try clear c56b0); (try clear c57); (try clear c57b0); (try clear c57b1); (try clear c58); (try clear c62); (try clear p64); (try clear c66); (try clear c69); (try clear c72); (try clear c74); (try clear c74b0)
               (try clear c75); (try clear c75b0); (try clear c77); (try clear c80); (try clear c81); (try clear c83); (try clear c83b0); (try clear c83b1); (try clear c85); (try clear c86); (try clear c87); (try clear c91); (try clear c92); (try clear c95); (try clear c96); (try clear c98); (try clear hcz18_0); (try clear hcz18_1); (try clear hcz18_2); (try clear hcz20_0); (try clear hcz20_1)
               (try clear hcz20_2); (try clear hcz20_3); (try clear hcz20_4); (try clear hcz20_5); (try clear hcz21_0); (try clear hcz21_1); (try clear hcz21_2); (try clear hcz23_0); (try clear hcz23_1); (try clear hcz23_2); (try clear hcz23_3); (try clear hcz23_4); (try clear hcz23_5); (try clear hcz25_0); (try clear hcz25_1); (try clear hcz25_2); (try clear hcz27_0); (try clear hcz27_1)
               (try clear hcz27_2); (try clear hcz27_3); (try clear hcz27_4); (try clear hcz27_5); (try clear hcz28_0); (try clear hcz28_1); (try clear hcz28_2); (try clear hcz31_0); (try clear hcz31_1); (try clear hcz31_2); (try clear hcz33_0); (try clear hcz33_1); (try clear hcz33_2); (try clear hcz33_3); (try clear hcz33_4); (try clear hcz33_5); (try clear hcz34_0); (try clear hcz34_1)
               (try clear hcz34_2); (try clear hcz36_0); (try clear hcz36_1); (try clear hcz36_2); (try clear hcz38_0); (try clear hcz38_1); (try clear hcz38_2); (try clear hcz38_3); (try clear hcz38_4); (try clear hcz38_5); (try clear hcz40_0); (try clear hcz40_1); (try clear hcz40_2); (try clear hcz42_0); (try clear hcz42_1); (try clear hcz42_2); (try clear hcz42_3); (try clear hcz42_4)
               (try clear hcz42_5); (try clear hcz44_0); (try clear hcz44_1); (try clear hcz44_2); (try clear hcz59_0); (try clear hcz59_1); (try clear hcz59_2); (try clear hcz59_3); (try clear hcz59_4); (try clear hcz59_5); (try clear hcz61_0); (try clear hcz61_1); (try clear hcz61_2); (try clear hcz61_3); (try clear hcz61_4); (try clear hcz61_5); (try clear hcz63_0); (try clear hcz63_1)
               (try clear hcz63_2); (try clear hcz63_3); (try clear hcz63_4); (try clear hcz63_5); (try clear hcz65_0); (try clear hcz65_1); (try clear hcz65_2); (try clear hcz65_3); (try clear hcz65_4); (try clear hcz65_5); (try clear hcz67_0); (try clear hcz67_1); (try clear hcz67_2); (try clear hcz67_3); (try clear hcz67_4); (try clear hcz67_5); (try clear hcz70_0); (try clear hcz70_1)
               (try clear hcz70_2); (try clear hcz70_3); (try clear hcz70_4); (try clear hcz70_5); (try clear hcz73_0); (try clear hcz73_1); (try clear hcz73_2); (try clear hcz73_3); (try clear hcz73_4); (try clear hcz73_5); (try clear hcz78_0); (try clear hcz78_1); (try clear hcz78_2); (try clear hcz78_3); (try clear hcz78_4); (try clear hcz78_5); (try clear hcz82_0); (try clear hcz82_1)
               (try clear hcz88_0); (try clear hcz88_1); (try clear hcz90_0); (try clear hcz90_1); (try clear hcz93_0); (try clear hcz93_1); (try clear hcz97_0); (try clear hcz97_1); (try clear hfz18_0); (try clear hfz18_1); (try clear hfz18_2); (try clear hfz20_0); (try clear hfz20_1); (try clear hfz20_2); (try clear hfz20_3); (try clear hfz20_4); (try clear hfz20_5); (try clear hfz21_0)
               (try clear hfz21_1); (try clear hfz21_2); (try clear hfz23_0); (try clear hfz23_1); (try clear hfz23_2); (try clear hfz23_3); (try clear hfz23_4); (try clear hfz23_5); (try clear hfz25_0); (try clear hfz25_1); (try clear hfz25_2); (try clear hfz27_0); (try clear hfz27_1); (try clear hfz27_2); (try clear hfz27_3); (try clear hfz27_4); (try clear hfz27_5); (try clear hfz28_0)
               (try clear hfz28_1); (try clear hfz28_2); (try clear hfz31_0); (try clear hfz31_1); (try clear hfz31_2); (try clear hfz33_0); (try clear hfz33_1); (try clear hfz33_2); (try clear hfz33_3); (try clear hfz33_4); (try clear hfz33_5); (try clear hfz34_0); (try clear hfz34_1); (try clear hfz34_2); (try clear hfz36_0); (try clear hfz36_1); (try clear hfz36_2); (try clear hfz38_0)
               (try clear hfz38_1); (try clear hfz38_2); (try clear hfz38_3); (try clear hfz38_4); (try clear hfz38_5); (try clear hfz40_0); (try clear hfz40_1); (try clear hfz40_2); (try clear hfz42_0); (try clear hfz42_1); (try clear hfz42_2); (try clear hfz42_3); (try clear hfz42_4); (try clear hfz42_5); (try clear hfz44_0); (try clear hfz44_1); (try clear hfz44_2); (try clear hfz59_0)
               (try clear hfz59_1); (try clear hfz59_2); (try clear hfz59_3); (try clear hfz59_4); (try clear hfz59_5); (try clear hfz61_0); (try clear hfz61_1); (try clear hfz61_2); (try clear hfz61_3); (try clear hfz61_4); (try clear hfz61_5); (try clear hfz63_0); (try clear hfz63_1); (try clear hfz63_2); (try clear hfz63_3); (try clear hfz63_4); (try clear hfz63_5); (try clear hfz65_0)
               (try clear hfz65_1); (try clear hfz65_2); (try clear hfz65_3); (try clear hfz65_4); (try clear hfz65_5); (try clear hfz67_0); (try clear hfz67_1); (try clear hfz67_2); (try clear hfz67_3); (try clear hfz67_4); (try clear hfz67_5); (try clear hfz70_0); (try clear hfz70_1); (try clear hfz70_2); (try clear hfz70_3); (try clear hfz70_4); (try clear hfz70_5); (try clear hfz73_0)
               (try clear hfz73_1); (try clear hfz73_2); (try clear hfz73_3); (try clear hfz73_4); (try clear hfz73_5); (try clear hfz78_0); (try clear hfz78_1); (try clear hfz78_2); (try clear hfz78_3); (try clear hfz78_4); (try clear hfz78_5); (try clear hfz82_0); (try clear hfz82_1); (try clear hfz88_0); (try clear hfz88_1); (try clear hfz90_0); (try clear hfz90_1); (try clear hfz93_0)
               (try clear hfz93_1); (try clear hfz97_0); (try clear hfz97_1); (try clear hx107_0); (try clear hx108_0); (try clear hx110_0); (try clear hx111_0); (try clear hx111_1); (try clear p1); (try clear p10); (try clear p107); (try clear p108); (try clear p11); (try clear p110); (try clear p111); (try clear p2); (try clear p6); (try clear p64); (try clear q1); (try clear q10)
               (try clear q107); (try clear q108); (try clear q11); (try clear q110); (try clear q111)
               obtain ⟨x10_5, rfl, HA, HK5, BK101, BK102, BK112, HB⟩ := hrel
               cases gk with
               | zero => exact absurd HA.out (by simp [spec_OpeningOK.l2])
               | succ k5 =>
                have H := HA.out
                clear HA
                simp only [spec_OpeningOK.l2] at H
                by_cases c99 : x10_5 < a1
                ·
                 rw [if_pos c99] at H
                 have c99b0 : decide (x10_5 < a1) = true := decide_eq_true c99
                 clear c99
                 by_cases c100 : 0 ≤ x10_5
                 ·
                  rw [if_pos c100] at H
                  have c100b0 : decide (0 ≤ x10_5) = true := decide_eq_true c100
                  clear c100
                  by_cases c101 : x10_5 < (((rd_T67 l0_5 x8_3).f1).length : Int)
                  ·
                   rw [if_pos c101] at H
                   have c101b0 : decide (x10_5 < (((rd_T67 l0_5 x8_3).f1).length : Int)) = true := decide_eq_true c101
                   clear c101
                   by_cases c102 : ((rd_L6 ((rd_T67 l0_5 x8_3).f1) x10_5).length : Int) = (wrap64 ((wrap64 ((wrap64 (a1 + a2_0)) - 1)) - x10_5))
                   ·
                    rw [if_pos c102] at H
                    have c102b0 : (((rd_L6 ((rd_T67 l0_5 x8_3).f1) x10_5).length : Int) == (wrap64 ((wrap64 ((wrap64 (a1 + a2_0)) - 1)) - x10_5))) = true := beq_iff_eq.mpr c102
                    have c102b1 : (((rd_L6 ((rd_T67 l0_5 x8_3).f1) x10_5).length : Int) != (wrap64 ((wrap64 ((wrap64 (a1 + a2_0)) - 1)) - x10_5))) = false := bne_eq_false_iff_eq.mpr c102
                    clear c102
                    have H' := am_ H
                    clear H
                    have hnb103 := NB112_101.out
                    have hnc103 := NB101_112.out
                    have hnb104 := NB112_102.out
                    have hnc104 := NB102_112.out
                    have hcz105_0 : wr.cell? ⟨gb112, 0, none⟩ = some (.slice A111_0 ((rd_T67 l0_5 x8_3).f0).length c111_0) := (blk_cell BK112.out 0).trans rfl
                    have hcz105_1 : wr.cell? ⟨gb112, 1, none⟩ = some (.slice A111_1 ((rd_T67 l0_5 x8_3).f1).length c111_1) := (blk_cell BK112.out 1).trans rfl
                    have hfz105_0 := blk_frozen BK112.out 0
                    have hfz105_1 := blk_frozen BK112.out 1
                    have p114 : 0 ≤ (x10_5 : Int) := of_decide_eq_true qz2_
                    have q114 : x10_5 < (((rd_T67 l0_5 x8_3).f1).length : Int) := of_decide_eq_true qz2_
                    obtain ⟨ad114, A114_0, c114_0, e114, hx114_0, hl114_0, hi114_0⟩ := at_L6 HR111_1.out x10_5 p114 q114
                    cases e114
                    replace hx114_0 := (HB.out.cell (World.block_lt_of_cell? w _ hx114_0)).trans hx114_0
                    have HR114_0 := am_ hi114_0
                    have HC114_0 := am_ hl114_0
                    clear hi114_0 hl114_0
                    replace p114 := eq_true p114
                    replace q114 := eq_true q114
                    have hnb106 := NB102_101.out
                    have hnc106 := NB101_102.out
                    have hcz107_0 : wr.cell? ⟨gb102, 0, none⟩ = some (.int .i64 a2_0) := (blk_cell BK102.out 0).trans rfl
                    have hcz107_1 : wr.cell? ⟨gb102, 1, none⟩ = some (.int .i64 a2_1) := (blk_cell BK102.out 1).trans rfl
                    have hcz107_2 : wr.cell? ⟨gb102, 2, none⟩ = some (.int .i64 a2_2) := (blk_cell BK102.out 2).trans rfl
                    have hfz107_0 := blk_frozen BK102.out 0
                    have hfz107_1 := blk_frozen BK102.out 1
                    have hfz107_2 := blk_frozen BK102.out 2
                    go_wp2
                    repeat (go_quiet (fail); try go_wp2)
                    go_loopg [11] k5 (fun kq v11 w' => ∃ (x11_6 : Int), v11 = .int .i64 x11_6 ∧ Aside0 (spec_OpeningOK.l3 kq a1 x8_3 x10_5 x11_6 l0_0 l0_1 a0_2 a0_3 a0_4 l0_5 a2_0 a2_1 a2_2 ((rd_T67 l0_5 x8_3).f0) ((rd_T67 l0_5 x8_3).f1) = some r) ∧ Aside0 (kq ≤ k5) ∧ Aside0 (w'.heap[gb101]? = some (.cells #[(.slice A0_0 l0_0.length c0_0), (.slice A0_1 l0_1.length c0_1), .int .i64 a0_2, .int .i64 a0_3, .int .i64 a0_4, (.slice (some ad111) l0_5.length c0_5)] 47 (0, 0))) ∧ Aside0 (w'.heap[gb102]? = some (.cells #[.int .i64 a2_0, .int .i64 a2_1, .int .i64 a2_2] 49 (0, 0))) ∧ Aside0 (w'.heap[gb112]? = some (.cells #[(.slice A111_0 ((rd_T67 l0_5 x8_3).f0).length c111_0), (.slice (some ad114) ((rd_T67 l0_5 x8_3).f1).length c111_1)] 67 (0, 0))) ∧ Aside0 (Below w.heap.size w w'))
                    case atStart => exact ⟨(0), qz0_, H', ⟨Nat.le_refl _⟩, ⟨qz7_⟩, ⟨qz8_⟩, ⟨qz14_⟩, ⟨qz10_⟩⟩
                    case round =>
                     clear H'
                     (try clear c1); (try clear p1); (try clear q1); (try clear hx1); (try clear c2); (try clear p2); (try clear c3); (try clear c4); (try clear c5); (try clear c6); (try clear p6); (try clear c7); (try clear c8); (try clear c9); (try clear c10); (try clear p10); (try clear q10); (try clear hx10); (try clear c11); (try clear c11b0); (try clear c11b1); (try clear p11)
                     (try clear q11); (try clear hx11); (try clear c12); (try clear c12b0); (try clear c12b1); (try clear c13); (try clear c13b0); (try clear c13b1); (try clear c15); (try clear c17); (try clear c24); (try clear c30); (try clear c35); (try clear c39); (try clear c43); (try clear c46); (try clear c47); (try clear c47b0); (try clear c48); (try clear c48b0); (try clear c49)
                     (try clear c49b0); (try clear c50); (try clear c50b0); (try clear c50b1); (try clear c52); (try clear c53); (try clear c53b0); (try clear c55); (try clear c55b0); (try clear c56); (try clear c56b0); (try clear c57); (try clear c57b0); (try clear c57b1); (try clear c58); (try clear c62); (try clear p64); (try clear c66); (try clear c69); (try clear c72); (try clear c74)
                     (try clear c74b0); (try clear c75); (try clear c75b0); (try clear c77); (try clear c80); (try clear c81); (try clear c83); (try clear c83b0); (try clear c83b1); (try clear c85); (try clear c86); (try clear c87); (try clear c91); (try clear c92); (try clear c95); (try clear c96); (try clear c98); (try clear c99); (try clear c99b0); (try clear c100); (try clear c100b0)
                     (try clear c101); (try clear c101b0); (try clear c102); (try clear c102b0); (try clear c102b1); (try clear c103); (try clear c104); (try clear c106); (try clear p107); (try clear q107); (try clear hx107); (try clear hcz105_0); (try clear hcz105_1); (try clear hcz107_0); (try clear hcz107_1); (try clear hcz107_2); (try clear hcz18_0); (try clear hcz18_1); (try clear hcz18_2)
                     (try clear hcz20_0); (try clear hcz20_1); (try clear hcz20_2); (try clear hcz20_3); (try clear hcz20_4); (try clear hcz20_5); (try clear hcz21_0); (try clear hcz21_1); (try clear hcz21_2); (try clear hcz23_0); (try clear hcz23_1); (try clear hcz23_2); (try clear hcz23_3); (try clear hcz23_4); (try clear hcz23_5); (try clear hcz25_0); (try clear hcz25_1); (try clear hcz25_2)
                     (try clear hcz27_0); (try clear hcz27_1); (try clear hcz27_2); (try clear hcz27_3); (try clear hcz27_4); (try clear hcz27_5); (try clear hcz28_0); (try clear hcz28_1); (try clear hcz28_2); (try clear hcz31_0); (try clear hcz31_1); (try clear hcz31_2); (try clear hcz33_0); (try clear hcz33_1); (try clear hcz33_2); (try clear hcz33_3); (try clear hcz33_4); (try clear hcz33_5)
                     (try clear hcz34_0); (try clear hcz34_1); (try clear hcz34_2); (try clear hcz36_0); (try clear hcz36_1); (try clear hcz36_2); (try clear hcz38_0); (try clear hcz38_1); (try clear hcz38_2); (try clear hcz38_3); (try clear hcz38_4); (try clear hcz38_5); (try clear hcz40_0); (try clear hcz40_1); (try clear hcz40_2); (try clear hcz42_0); (try clear hcz42_1); (try clear hcz42_2)
                     (try clear hcz42_3); (try clear hcz42_4); (try clear hcz42_5); (try clear hcz44_0); (try clear hcz44_1); (try clear hcz44_2); (try clear hcz59_0); (try clear hcz59_1); (try clear hcz59_2); (try clear hcz59_3); (try clear hcz59_4); (try clear hcz59_5); (try clear hcz61_0); (try clear hcz61_1); (try clear hcz61_2); (try clear hcz61_3); (try clear hcz61_4); (try clear hcz61_5)
                     (try clear hcz63_0); (try clear hcz63_1); (try clear hcz63_2); (try clear hcz63_3); (try clear hcz63_4); (try clear hcz63_5); (try clear hcz65_0); (try clear hcz65_1); (try clear hcz65_2); (try clear hcz65_3); (try clear hcz65_4); (try clear hcz65_5); (try clear hcz67_0); (try clear hcz67_1); (try clear hcz67_2); (try clear hcz67_3); (try clear hcz67_4); (try clear hcz67_5)
                     (try clear hcz70_0); (try clear hcz70_1); (try clear hcz70_2); (try clear hcz70_3); (try clear hcz70_4); (try clear hcz70_5); (try clear hcz73_0); (try clear hcz73_1); (try clear hcz73_2); (try clear hcz73_3); (try clear hcz73_4); (try clear hcz73_5); (try clear hcz78_0); (try clear hcz78_1); (try clear hcz78_2); (try clear hcz78_3); (try clear hcz78_4); (try clear hcz78_5)
                     (try clear hcz82_0); (try clear hcz82_1); (try clear hcz88_0); (try clear hcz88_1); (try clear hcz90_0); (try clear hcz90_1); (try clear hcz93_0); (try clear hcz93_1); (try clear hcz97_0); (try clear hcz97_1); (try clear hfz105_0); (try clear hfz105_1); (try clear hfz107_0); (try clear hfz107_1); (try clear hfz107_2); (try clear hfz18_0); (try clear hfz18_1)
                     (try clear hfz18_2); (try clear hfz20_0); (try clear hfz20_1); (try clear hfz20_2); (try clear hfz20_3); (try clear hfz20_4); (try clear hfz20_5); (try clear hfz21_0); (try clear hfz21_1); (try clear hfz21_2); (try clear hfz23_0); (try clear hfz23_1); (try clear hfz23_2); (try clear hfz23_3); (try clear hfz23_4); (try clear hfz23_5); (try clear hfz25_0); (try clear hfz25_1)
                     (try clear hfz25_2); (try clear hfz27_0); (try clear hfz27_1); (try clear hfz27_2); (try clear hfz27_3); (try clear hfz27_4); (try clear hfz27_5); (try clear hfz28_0); (try clear hfz28_1); (try clear hfz28_2); (try clear hfz31_0); (try clear hfz31_1); (try clear hfz31_2); (try clear hfz33_0); (try clear hfz33_1); (try clear hfz33_2); (try clear hfz33_3); (try clear hfz33_4)
                     (try clear hfz33_5); (try clear hfz34_0); (try clear hfz34_1); (try clear hfz34_2); (try clear hfz36_0); (try clear hfz36_1); (try clear hfz36_2); (try clear hfz38_0); (try clear hfz38_1); (try clear hfz38_2); (try clear hfz38_3); (try clear hfz38_4); (try clear hfz38_5); (try clear hfz40_0); (try clear hfz40_1); (try clear hfz40_2); (try clear hfz42_0); (try clear hfz42_1)
                     (try clear hfz42_2); (try clear hfz42_3); (try clear hfz42_4); (try clear hfz42_5); (try clear hfz44_0); (try clear hfz44_1); (try clear hfz44_2); (try clear hfz59_0); (try clear hfz59_1); (try clear hfz59_2); (try clear hfz59_3); (try clear hfz59_4); (try clear hfz59_5); (try clear hfz61_0); (try clear hfz61_1); (try clear hfz61_2); (try clear hfz61_3); (try clear hfz61_4)
                     (try clear hfz61_5); (try clear hfz63_0); (try clear hfz63_1); (try clear hfz63_2); (try clear hfz63_3); (try clear hfz63_4); (try clear hfz63_5); (try clear hfz65_0); (try clear hfz65_1); (try clear hfz65_2); (try clear hfz65_3); (try clear hfz65_4); (try clear hfz65_5); (try clear hfz67_0); (try clear hfz67_1); (try clear hfz67_2); (try clear hfz67_3); (try clear hfz67_4)
                     (try clear hfz67_5); (try clear hfz70_0); (try clear hfz70_1); (try clear hfz70_2); (try clear hfz70_3); (try clear hfz70_4); (try clear hfz70_5); (try clear hfz73_0); (try clear hfz73_1); (try clear hfz73_2); (try clear hfz73_3); (try clear hfz73_4); (try clear hfz73_5); (try clear hfz78_0); (try clear hfz78_1); (try clear hfz78_2); (try clear hfz78_3); (try clear hfz78_4)
                     (try clear hfz78_5); (try clear hfz82_0); (try clear hfz82_1); (try clear hfz88_0); (try clear hfz88_1); (try clear hfz90_0); (try clear hfz90_1); (try clear hfz93_0); (try clear hfz93_1); (try clear hfz97_0); (try clear hfz97_1); (try clear hx107_0); (try clear hx108_0); (try clear hx110_0); (try clear hx111_0); (try clear hx111_1); (try clear hx114_0); (try clear p1)
                     (try clear p10); (try clear p107); (try clear p108); (try clear p11); (try clear p110); (try clear p111); (try clear p114); (try clear p2); (try clear p6); (try clear p64); (try clear q1); (try clear q10); (try clear q107); (try clear q108); (try clear q11); (try clear q110); (try clear q111); (try clear q114)
                     obtain ⟨x11_6, rfl, HA, HK6, BK101, BK102, BK112, HB⟩ := hrel
                     cases gk with
                     | zero => exact absurd HA.out (by simp [spec_OpeningOK.l3])
                     | succ k6 =>
                      have H := HA.out
                      clear HA
                      simp only [spec_OpeningOK.l3] at H
                      by_cases c108 : 0 ≤ x10_5
                      ·
                       rw [if_pos c108] at H
                       have c108b0 : decide (0 ≤ x10_5) = true := decide_eq_true c108
                       clear c108
                       by_cases c109 : x10_5 < (((rd_T67 l0_5 x8_3).f1).length : Int)
                       ·
                        rw [if_pos c109] at H
                        have c109b0 : decide (x10_5 < (((rd_T67 l0_5 x8_3).f1).length : Int)) = true := decide_eq_true c109
                        clear c109
                        by_cases c110 : x11_6 < ((rd_L6 ((rd_T67 l0_5 x8_3).f1) x10_5).length : Int)
                        ·
                         rw [if_pos c110] at H
                         have c110b0 : decide (x11_6 < ((rd_L6 ((rd_T67 l0_5 x8_3).f1) x10_5).length : Int)) = true := decide_eq_true c110
                         clear c110
                         by_cases c111 : 0 ≤ x11_6
                         ·
                          rw [if_pos c111] at H
                          have c111b0 : decide (0 ≤ x11_6) = true := decide_eq_true c111
                          clear c111
                          by_cases c112 : ((rdOf ByteArray.empty (rd_L6 ((rd_T67 l0_5 x8_3).f1) x10_5) x11_6).size : Int) = 32
                          ·
                           rw [if_pos c112] at H
                           have c112b0 : (((rdOf ByteArray.empty (rd_L6 ((rd_T67 l0_5 x8_3).f1) x10_5) x11_6).size : Int) == 32) = true := beq_iff_eq.mpr c112
                           have c112b1 : (((rdOf ByteArray.empty (rd_L6 ((rd_T67 l0_5 x8_3).f1) x10_5) x11_6).size : Int) != 32) = false := bne_eq_false_iff_eq.mpr c112
                           clear c112
                           have H' := am_ H
                           clear H
                           have hnb113 := NB112_101.out
                           have hnc113 := NB101_112.out
                           have hnb114 := NB112_102.out
                           have hnc114 := NB102_112.out
                           have hcz115_0 : wr.cell? ⟨gb112, 0, none⟩ = some (.slice A111_0 ((rd_T67 l0_5 x8_3).f0).length c111_0) := (blk_cell BK112.out 0).trans rfl
                           have hcz115_1 : wr.cell? ⟨gb112, 1, none⟩ = some (.slice (some ad114) ((rd_T67 l0_5 x8_3).f1).length c111_1) := (blk_cell BK112.out 1).trans rfl
                           have hfz115_0 := blk_frozen BK112.out 0
                           have hfz115_1 := blk_frozen BK112.out 1
                           have p115 : 0 ≤ (x10_5 : Int) := of_decide_eq_true qz2_
                           have q115 : x10_5 < (((rd_T67 l0_5 x8_3).f1).length : Int) := of_decide_eq_true qz2_
                           obtain ⟨ad115, A115_0, c115_0, e115, hx115_0, hl115_0, hi115_0⟩ := at_L6 HR111_1.out x10_5 p115 q115
                           obtain rfl : ad114 = ad115 := (by injection e115)
                           replace hx115_0 := (HB.out.cell (World.block_lt_of_cell? w _ hx115_0)).trans hx115_0
                           have HR115_0 := am_ hi115_0
                           have HC115_0 := am_ hl115_0
                           clear hi115_0 hl115_0
                           replace p115 := eq_true p115
                           replace q115 := eq_true q115
                           have p116 : 0 ≤ (x10_5 : Int) := of_decide_eq_true qz2_
                           have q116 : x10_5 < (((rd_T67 l0_5 x8_3).f1).length : Int) := of_decide_eq_true qz2_
                           obtain ⟨ad116, A116_0, c116_0, e116, hx116_0, hl116_0, hi116_0⟩ := at_L6 HR111_1.out x10_5 p116 q116
                           obtain rfl : ad114 = ad116 := (by injection e116)
                           replace hx116_0 := (HB.out.cell (World.block_lt_of_cell? w _ hx116_0)).trans hx116_0
                           have HR116_0 := am_ hi116_0
                           have HC116_0 := am_ hl116_0
                           clear hi116_0 hl116_0
                           replace p116 := eq_true p116
                           replace q116 := eq_true q116
                           have ea_ := Option.some.inj (hx115_0.symm.trans hx116_0)
                           injection ea_ with ea_ en_ ec_
                           subst ea_
                           subst ec_
                           clear en_
                           have p117 : 0 ≤ (x11_6 : Int) := of_decide_eq_true qz2_
                           have q117 : x11_6 < ((rd_L6 ((rd_T67 l0_5 x8_3).f1) x10_5).length : Int) := of_decide_eq_true qz2_
                           obtain ⟨ad117, e117, hx117_0⟩ := Kd.at_string HR116_0.out x11_6 p117 q117
                           cases e117
                           replace hx117_0 := (HB.out.cell (World.block_lt_of_cell? w _ hx117_0)).trans hx117_0
                           replace p117 := eq_true p117
                           replace q117 := eq_true q117
                           go_wp2
                           repeat (go_quiet (fail); try go_wp2)
                           go_roundg k6
                           case measure => have := HJ3.out; have := HK2.out; have := HK3.out; have := HJ75.out; have := HK5.out; have := HK6.out; omega
                           case rel => exact ⟨(wrap64 (x11_6 + 1)), qz0_, H', ⟨(by have := HJ3.out; have := HK2.out; have := HK3.out; have := HJ75.out; have := HK5.out; have := HK6.out; omega)⟩, ⟨qz7_⟩, ⟨qz8_⟩, ⟨qz14_⟩, ⟨qz10_⟩⟩
                          ·
                           rw [if_neg c112] at H
                           have c112b0 : (((rdOf ByteArray.empty (rd_L6 ((rd_T67 l0_5 x8_3).f1) x10_5) x11_6).size : Int) == 32) = false := beq_eq_false_iff_ne.mpr c112
                           have c112b1 : (((rdOf ByteArray.empty (rd_L6 ((rd_T67 l0_5 x8_3).f1) x10_5) x11_6).size : Int) != 32) = true := bne_iff_ne.mpr c112
                           obtain rfl := Option.some.inj H
                           have hnb116 := NB112_101.out
                           have hnc116 := NB101_112.out
                           have hnb117 := NB112_102.out
                           have hnc117 := NB102_112.out
                           have hcz118_0 : wr.cell? ⟨gb112, 0, none⟩ = some (.slice A111_0 ((rd_T67 l0_5 x8_3).f0).length c111_0) := (blk_cell BK112.out 0).trans rfl
                           have hcz118_1 : wr.cell? ⟨gb112, 1, none⟩ = some (.slice (some ad114) ((rd_T67 l0_5 x8_3).f1).length c111_1) := (blk_cell BK112.out 1).trans rfl
                           have hfz118_0 := blk_frozen BK112.out 0
                           have hfz118_1 := blk_frozen BK112.out 1
                           have p115 : 0 ≤ (x10_5 : Int) := of_decide_eq_true qz2_
                           have q115 : x10_5 < (((rd_T67 l0_5 x8_3).f1).length : Int) := of_decide_eq_true qz2_
                           obtain ⟨ad115, A115_0, c115_0, e115, hx115_0, hl115_0, hi115_0⟩ := at_L6 HR111_1.out x10_5 p115 q115
                           obtain rfl : ad114 = ad115 := (by injection e115)
                           replace hx115_0 := (HB.out.cell (World.block_lt_of_cell? w _ hx115_0)).trans hx115_0
                           have HR115_0 := am_ hi115_0
                           have HC115_0 := am_ hl115_0
                           clear hi115_0 hl115_0
                           replace p115 := eq_true p115
                           replace q115 := eq_true q115
                           have p116 : 0 ≤ (x10_5 : Int) := of_decide_eq_true qz2_
                           have q116 : x10_5 < (((rd_T67 l0_5 x8_3).f1).length : Int) := of_decide_eq_true qz2_
                           obtain ⟨ad116, A116_0, c116_0, e116, hx116_0, hl116_0, hi116_0⟩ := at_L6 HR111_1.out x10_5 p116 q116
                           obtain rfl : ad114 = ad116 := (by injection e116)
                           replace hx116_0 := (HB.out.cell (World.block_lt_of_cell? w _ hx116_0)).trans hx116_0
                           have HR116_0 := am_ hi116_0
                           have HC116_0 := am_ hl116_0
                           clear hi116_0 hl116_0
                           replace p116 := eq_true p116
                           replace q116 := eq_true q116
                           have ea_ := Option.some.inj (hx115_0.symm.trans hx116_0)
                           injection ea_ with ea_ en_ ec_
                           subst ea_
                           subst ec_
                           clear en_
                           have p117 : 0 ≤ (x11_6 : Int) := of_decide_eq_true qz2_
                           have q117 : x11_6 < ((rd_L6 ((rd_T67 l0_5 x8_3).f1) x10_5).length : Int) := of_decide_eq_true qz2_
                           obtain ⟨ad117, e117, hx117_0⟩ := Kd.at_string HR116_0.out x11_6 p117 q117
                           cases e117
                           replace hx117_0 := (HB.out.cell (World.block_lt_of_cell? w _ hx117_0)).trans hx117_0
                           replace p117 := eq_true p117
                           replace q117 := eq_true q117
                           go_wp2
                           repeat (go_quiet (fail); try go_wp2)
                           go_ret
                           exact ⟨qz5_, qz10_⟩
                         ·
                          rw [if_neg c111] at H
                          exact absurd H (by simp)
                        ·
                         rw [if_neg c110] at H
                         have c110b0 : decide (x11_6 < ((rd_L6 ((rd_T67 l0_5 x8_3).f1) x10_5).length : Int)) = false := decide_eq_false c110
                         clear c110
                         have H' := am_ H
                         clear H
                         have hnb119 := NB112_101.out
                         have hnc119 := NB101_112.out
                         have hnb120 := NB112_102.out
                         have hnc120 := NB102_112.out
                         have hcz121_0 : wr.cell? ⟨gb112, 0, none⟩ = some (.slice A111_0 ((rd_T67 l0_5 x8_3).f0).length c111_0) := (blk_cell BK112.out 0).trans rfl
                         have hcz121_1 : wr.cell? ⟨gb112, 1, none⟩ = some (.slice (some ad114) ((rd_T67 l0_5 x8_3).f1).length c111_1) := (blk_cell BK112.out 1).trans rfl
                         have hfz121_0 := blk_frozen BK112.out 0
                         have hfz121_1 := blk_frozen BK112.out 1
                         have p115 : 0 ≤ (x10_5 : Int) := of_decide_eq_true qz2_
                         have q115 : x10_5 < (((rd_T67 l0_5 x8_3).f1).length : Int) := of_decide_eq_true qz2_
                         obtain ⟨ad115, A115_0, c115_0, e115, hx115_0, hl115_0, hi115_0⟩ := at_L6 HR111_1.out x10_5 p115 q115
                         obtain rfl : ad114 = ad115 := (by injection e115)
                         replace hx115_0 := (HB.out.cell (World.block_lt_of_cell? w _ hx115_0)).trans hx115_0
                         have HR115_0 := am_ hi115_0
                         have HC115_0 := am_ hl115_0
                         clear hi115_0 hl115_0
                         replace p115 := eq_true p115
                         replace q115 := eq_true q115
                         go_wp2
                         repeat (go_quiet (fail); try go_wp2)
                         go_roundg k6
                         case measure => have := HJ3.out; have := HK2.out; have := HK3.out; have := HJ75.out; have := HK5.out; have := HK6.out; omega
                         case rel => exact ⟨(wrap64 (x10_5 + 1)), qz0_, H', ⟨(by have := HJ3.out; have := HK2.out; have := HK3.out; have := HJ75.out; have := HK5.out; have := HK6.out; omega)⟩, ⟨qz7_⟩, ⟨qz8_⟩, ⟨qz14_⟩, ⟨qz10_⟩⟩
                       ·
                        rw [if_neg c109] at H
                        exact absurd H (by simp)
                      ·
                       rw [if_neg c108] at H
                       exact absurd H (by simp)
                   ·
                    rw [if_neg c102] at H
                    have c102b0 : (((rd_L6 ((rd_T67 l0_5 x8_3).f1) x10_5).length : Int) == (wrap64 ((wrap64 ((wrap64 (a1 + a2_0)) - 1)) - x10_5))) = false := beq_eq_false_iff_ne.mpr c102
                    have c102b1 : (((rd_L6 ((rd_T67 l0_5 x8_3).f1) x10_5).length : Int) != (wrap64 ((wrap64 ((wrap64 (a1 + a2_0)) - 1)) - x10_5))) = true := bne_iff_ne.mpr c102
                    obtain rfl := Option.some.inj H
                    have hnb122 := NB112_101.out
                    have hnc122 := NB101_112.out
                    have hnb123 := NB112_102.out
                    have hnc123 := NB102_112.out
                    have hcz124_0 : wr.cell? ⟨gb112, 0, none⟩ = some (.slice A111_0 ((rd_T67 l0_5 x8_3).f0).length c111_0) := (blk_cell BK112.out 0).trans rfl
                    have hcz124_1 : wr.cell? ⟨gb112, 1, none⟩ = some (.slice A111_1 ((rd_T67 l0_5 x8_3).f1).length c111_1) := (blk_cell BK112.out 1).trans rfl
                    have hfz124_0 := blk_frozen BK112.out 0
                    have hfz124_1 := blk_frozen BK112.out 1
                    have p114 : 0 ≤ (x10_5 : Int) := of_decide_eq_true qz2_
                    have q114 : x10_5 < (((rd_T67 l0_5 x8_3).f1).length : Int) := of_decide_eq_true qz2_
                    obtain ⟨ad114, A114_0, c114_0, e114, hx114_0, hl114_0, hi114_0⟩ := at_L6 HR111_1.out x10_5 p114 q114
                    cases e114
                    replace hx114_0 := (HB.out.cell (World.block_lt_of_cell? w _ hx114_0)).trans hx114_0
                    have HR114_0 := am_ hi114_0
                    have HC114_0 := am_ hl114_0
                    clear hi114_0 hl114_0
                    replace p114 := eq_true p114
                    replace q114 := eq_true q114
                    have hnb125 := NB102_101.out
                    have hnc125 := NB101_102.out
                    have hcz126_0 : wr.cell? ⟨gb102, 0, none⟩ = some (.int .i64 a2_0) := (blk_cell BK102.out 0).trans rfl
                    have hcz126_1 : wr.cell? ⟨gb102, 1, none⟩ = some (.int .i64 a2_1) := (blk_cell BK102.out 1).trans rfl
                    have hcz126_2 : wr.cell? ⟨gb102, 2, none⟩ = some (.int .i64 a2_2) := (blk_cell BK102.out 2).trans rfl
                    have hfz126_0 := blk_frozen BK102.out 0
                    have hfz126_1 := blk_frozen BK102.out 1
                    have hfz126_2 := blk_frozen BK102.out 2
                    go_wp2
                    repeat (go_quiet (fail); try go_wp2)
                    go_ret
                    exact ⟨qz5_, qz10_⟩
                  ·
                   rw [if_neg c101] at H
                   exact absurd H (by simp)
                 ·
                  rw [if_neg c100] at H
                  exact absurd H (by simp)
                ·
                 rw [if_neg c99] at H
                 have c99b0 : decide (x10_5 < a1) = false := decide_eq_false c99
                 clear c99
                 have H' := am_ H
                 clear H
                 go_wp2
                 repeat (go_quiet (fail); try go_wp2)
                 go_roundg k5
                 case measure => have := HJ3.out; have := HK2.out; have := HK3.out; have := HJ75.out; have := HK5.out; omega
                 case rel => exact ⟨(wrap64 (x8_3 + 1)), qz0_, H', ⟨(by have := HJ3.out; have := HK2.out; have := HK3.out; have := HJ75.out; have := HK5.out; omega)⟩, ⟨qz7_⟩, ⟨qz8_⟩, ⟨qz10_⟩⟩
          ·
           rw [if_neg c75] at H
           exact absurd H (by simp)
         ·
          rw [if_neg c74] at H
          have c74b0 : decide (x8_3 < (l0_5.length : Int)) = false := decide_eq_false c74
          clear c74
          obtain rfl := Option.some.inj H
          have hnb127 := NB101_102.out
          have hnc127 := NB102_101.out
          have hcz128_0 : wr.cell? ⟨gb101, 0, none⟩ = some (.slice A0_0 l0_0.length c0_0) := (blk_cell BK101.out 0).trans rfl
          have hcz128_1 : wr.cell? ⟨gb101, 1, none⟩ = some (.slice A0_1 l0_1.length c0_1) := (blk_cell BK101.out 1).trans rfl
          have hcz128_2 : wr.cell? ⟨gb101, 2, none⟩ = some (.int .i64 a0_2) := (blk_cell BK101.out 2).trans rfl
          have hcz128_3 : wr.cell? ⟨gb101, 3, none⟩ = some (.int .i64 a0_3) := (blk_cell BK101.out 3).trans rfl
          have hcz128_4 : wr.cell? ⟨gb101, 4, none⟩ = some (.int .i64 a0_4) := (blk_cell BK101.out 4).trans rfl
          have hcz128_5 : wr.cell? ⟨gb101, 5, none⟩ = some (.slice A0_5 l0_5.length c0_5) := (blk_cell BK101.out 5).trans rfl
          have hfz128_0 := blk_frozen BK101.out 0
          have hfz128_1 := blk_frozen BK101.out 1
          have hfz128_2 := blk_frozen BK101.out 2
          have hfz128_3 := blk_frozen BK101.out 3
          have hfz128_4 := blk_frozen BK101.out 4
          have hfz128_5 := blk_frozen BK101.out 5
          go_wp2
          repeat (go_quiet (fail); try go_wp2)
          go_ret
          exact ⟨qz5_, qz9_⟩

end Go.Proofs.Ytcfdefkpheeibaa.PT
end
