/- Part 4 of the proof of FnExactVectorOf: what functions compute, shown step by step, and what that says (the claim's last text states the law). -/
import Derived.Test.YtekijbcblajjbaaProg
import Derived.Test.YtekijbcblajjbaaVMore
import Derived.Test.YtekijbcblajjbaaVWords
import Derived.Test.YtekijbcblajjbaaVLast
import Derived.Test.YtekijbcblajjbaaVTab
import Derived.Test.YtekijbcblajjbaaVQPut
import Derived.Test.YtekijbcblajjbaaVApart
import Derived.Test.YtekijbcblajjbaaVArr
import Derived.Test.YtekijbcblajjbaaVZeros
import Derived.Test.YtekijbcblajjbaaVFoot
import Derived.Test.YtekijbcblajjbaaVKept
import Derived.Test.YtekijbcblajjbaaVShare
import Derived.Test.YtekijbcblajjbaaVN
import Derived.Test.YtekijbcblajjbaaVRepsOne
import Derived.Test.YtekijbcblajjbaaVGuard
import Derived.Test.YtekijbcblajjbaaVNEv
import Derived.Test.YtekijbcblajjbaaRows
import Derived.JoinedOf
import Derived.WalkKit
import Derived.ProofKit
import Derived.Below
import Derived.Deep.Draws
import Derived.Deep.AppendLies
import Derived.Maps.AppendAt
import Derived.OwnWalk
import Derived.Laws.BytesArg
import Derived.Laws.MakeOwn
import Derived.Laws.OwnMore
import Derived.Deep.OwnRows
import Derived.Tactics
import Derived.Lib.ConvBytes
import Derived.Laws.Slices
import Derived.KernelRfl
import Derived.RowKit3
import Derived.Deep.LoopGhost
import Derived.Deep.QuietTactic
import Derived.BigQuiet
import Derived.WideLaws
import Derived.Deep.DeepCutAuto
import Derived.Deep.CutBlock
import Derived.Deep.RegionHeld3
import Derived.Laws.Rows
import Derived.Lib.AppendStr
import Derived.ArgAppend
import Derived.Laws.IdiomCopy
import Derived.OrdersHeld
import Derived.Laws.BitsLemmas
import Derived.RowKit
import Derived.Laws.CopyOwn
import Derived.OpenShut
import Derived.ShutString
import Derived.ChangeOld
import Derived.SizedLaws
import Derived.Deep.Slices
import Derived.ChangeArms
import Derived.Test.YtekijbcblajjbaaZFnExactVectorOf3
section
namespace Go.Proofs.Ytekijbcblajjbaa.PT
open Go.RowKit Go.Proofs.YtekijbcblajjbaaW.PrintWords Go.Proofs.YtekijbcblajjbaaW.PrintLast Go.Proofs.YtekijbcblajjbaaW.PrintMore
attribute [local go_sem] max2_int min2_int max_two min_two max_three min_three max_four min_four   -- for this text's walks alone
set_option linter.unusedVariables false
set_option linter.unusedSimpArgs false

/-! ### laws_FnExactVectorOf: function 4 -/
mutual
def laws_FnExactVectorOf.j0 : Nat → List Int → List Int → List Int → Int → List Int → List Int → List Int → Int → Bool → Int → Int → Int → List (S105) → List (S105) → List (S105) → Int → Int → Int → List (S53) → List (S53) → List (S53) → Option (Bool)
  | 0, _, _, _, _, _, _, _, _, _, _, _, _, _, _, _, _, _, _, _, _, _ => none
  | k + 1, x1, x2, x8, x9, x11, x12, x13, x14, x62, x102000, x102001, x102002, x102003, x102004, x102005, x138000, x138001, x138002, x138003, x138004, x138005 => if x62 = true then (some false) else ((laws_toSystem.f k x102000 x102001 x102002 x102003 x102004 x102005).bind fun bt149 => ((laws_eqSystem.f k x138000 x138001 x138002 x138003 x138004 x138005 bt149.1 bt149.2.1 bt149.2.2.1 bt149.2.2.2.1 bt149.2.2.2.2.1 bt149.2.2.2.2.2).bind fun t161 => (if t161 = true then ((laws_toIntS.f k x1).bind fun t162 => ((laws_eqIntS.f k x11 t162).bind fun t165 => (if t165 = true then ((laws_toIntS.f k x2).bind fun t166 => ((laws_eqIntS.f k x12 t166).bind fun t169 => (if t169 = true then ((laws_markSystem.f k x138000 x138001 x138002 x138003 x138004 x138005 1).bind fun bt170 => ((laws_markIntS.f k x11 bt170.1).bind fun bt174 => ((laws_markIntS.f k x12 bt174.1).bind fun bt176 => (if bt176.1 < 0 then (laws_FnExactVectorOf.j1 k x1 x2 x8 x9 x13 true x102000 x102001 x102002 x102003 x102004 x102005) else ((laws_eqIntS.f k x13 x8).bind fun t178 => (if t178 = true then (laws_FnExactVectorOf.j1 k x1 x2 x8 x9 x13 (x14 != x9) x102000 x102001 x102002 x102003 x102004 x102005) else (laws_FnExactVectorOf.j1 k x1 x2 x8 x9 x13 true x102000 x102001 x102002 x102003 x102004 x102005))))))) else (some false)))) else (some false)))) else (some false))))
def laws_FnExactVectorOf.j1 : Nat → List Int → List Int → List Int → Int → List Int → Bool → Int → Int → Int → List (S105) → List (S105) → List (S105) → Option (Bool)
  | 0, _, _, _, _, _, _, _, _, _, _, _, _ => none
  | k + 1, x1, x2, x8, x9, x13, x99, x102000, x102001, x102002, x102003, x102004, x102005 => if x99 = true then (some false) else ((laws_markIntS.f k x13 1).bind fun bt179 => ((laws_heldIntS.f k bt179.2 1).bind fun t181 => (if t181 < 0 then (some false) else (if t181 = bt179.1 then ((laws_toSystem.f k x102000 x102001 x102002 x102003 x102004 x102005).bind fun bt182 => ((laws_toIntS.f k x1).bind fun t194 => ((laws_toIntS.f k x2).bind fun t197 => ((impl_VectorOf.f k bt182.1 bt182.2.1 bt182.2.2.1 bt182.2.2.2.1 bt182.2.2.2.2.1 bt182.2.2.2.2.2 t194 t197).bind fun bt200 => ((laws_eqIntS.f k bt200.1 x8).bind fun t204 => (if t204 = true then (laws_FnExactVectorOf.j2 k bt179.2 bt179.1 (bt200.2 != x9)) else (laws_FnExactVectorOf.j2 k bt179.2 bt179.1 true))))))) else (some false)))))
def laws_FnExactVectorOf.j2 : Nat → List Int → Int → Bool → Option (Bool)
  | 0, _, _, _ => none
  | k + 1, x13, x16, x129 => if x129 = true then (some false) else ((laws_heldIntS.f k x13 1).bind fun t205 => (if t205 < 0 then (some false) else (if t205 = x16 then (some true) else (some false))))
end
def laws_FnExactVectorOf.f (k : Nat) (a0_0 : Int) (a0_1 : Int) (a0_2 : Int) (l0_3 : List (S105)) (l0_4 : List (S105)) (l0_5 : List (S105)) (l1 : List Int) (l2 : List Int) : Option (Bool) := if (l1.length : Int) > 1048576 then (some true) else (if (l2.length : Int) > 1048576 then (some true) else ((laws_szSystem.f a0_0 a0_1 a0_2 l0_3 l0_4 l0_5 1048576).bind fun t102 => (if t102 < 0 then (some true) else ((laws_toSystem.f k a0_0 a0_1 a0_2 l0_3 l0_4 l0_5).bind fun bt103 => ((laws_toIntS.f k l1).bind fun t115 => ((laws_toIntS.f k l2).bind fun t118 => ((spec_VectorOf.f k bt103.1 bt103.2.1 bt103.2.2.1 bt103.2.2.2.1 bt103.2.2.2.2.1 bt103.2.2.2.2.2 t115 t118).bind fun bt121 => ((laws_toSystem.f k a0_0 a0_1 a0_2 l0_3 l0_4 l0_5).bind fun bt125 => ((laws_toIntS.f k l1).bind fun t138 => ((laws_toIntS.f k l2).bind fun t141 => ((impl_VectorOf.f k bt125.1 bt125.2.1 bt125.2.2.1 bt125.2.2.2.1 bt125.2.2.2.2.1 bt125.2.2.2.2.2 t138 t141).bind fun bt144 => ((laws_eqIntS.f k bt144.1 bt121.1).bind fun t148 => (if t148 = true then (laws_FnExactVectorOf.j0 k l1 l2 bt121.1 bt121.2 t138 t141 bt144.1 bt144.2 (bt144.2 != bt121.2) a0_0 a0_1 a0_2 l0_3 l0_4 l0_5 bt125.1 bt125.2.1 bt125.2.2.1 bt125.2.2.2.1 bt125.2.2.2.2.1 bt125.2.2.2.2.2) else (laws_FnExactVectorOf.j0 k l1 l2 bt121.1 bt121.2 t138 t141 bt144.1 bt144.2 true a0_0 a0_1 a0_2 l0_3 l0_4 l0_5 bt125.1 bt125.2.1 bt125.2.2.1 bt125.2.2.2.1 bt125.2.2.2.2.1 bt125.2.2.2.2.2))))))))))))))
theorem laws_FnExactVectorOf.mono_l : ∀ k, (∀ y0 y1 y2 y3 y4 y5 y6 y7 y8 y9 y10 y11 y12 y13 y14 y15 y16 y17 y18 y19 y20, LeO (laws_FnExactVectorOf.j0 k y0 y1 y2 y3 y4 y5 y6 y7 y8 y9 y10 y11 y12 y13 y14 y15 y16 y17 y18 y19 y20) (laws_FnExactVectorOf.j0 (k + 1) y0 y1 y2 y3 y4 y5 y6 y7 y8 y9 y10 y11 y12 y13 y14 y15 y16 y17 y18 y19 y20)) ∧ (∀ y0 y1 y2 y3 y4 y5 y6 y7 y8 y9 y10 y11, LeO (laws_FnExactVectorOf.j1 k y0 y1 y2 y3 y4 y5 y6 y7 y8 y9 y10 y11) (laws_FnExactVectorOf.j1 (k + 1) y0 y1 y2 y3 y4 y5 y6 y7 y8 y9 y10 y11)) ∧ (∀ y0 y1 y2, LeO (laws_FnExactVectorOf.j2 k y0 y1 y2) (laws_FnExactVectorOf.j2 (k + 1) y0 y1 y2))
  | 0 => ⟨fun _ _ _ _ _ _ _ _ _ _ _ _ _ _ _ _ _ _ _ _ _ r h => by simp [laws_FnExactVectorOf.j0] at h, fun _ _ _ _ _ _ _ _ _ _ _ _ r h => by simp [laws_FnExactVectorOf.j1] at h, fun _ _ _ r h => by simp [laws_FnExactVectorOf.j2] at h⟩
  | k + 1 => by
    obtain ⟨ih0, ih1, ih2⟩ := laws_FnExactVectorOf.mono_l k
    refine ⟨?_, ?_, ?_⟩
    · intro y0 y1 y2 y3 y4 y5 y6 y7 y8 y9 y10 y11 y12 y13 y14 y15 y16 y17 y18 y19 y20
      unfold laws_FnExactVectorOf.j0
      repeat' first
      | (with_reducible exact ih0 _ _ _ _ _ _ _ _ _ _ _ _ _ _ _ _ _ _ _ _ _)
      | (with_reducible exact ih1 _ _ _ _ _ _ _ _ _ _ _ _)
      | (with_reducible exact ih2 _ _ _)
      | (with_reducible exact impl_VectorOf.mono _ _ _ _ _ _ _ _ _)
      | (with_reducible exact laws_eqIntS.mono _ _ _)
      | (with_reducible exact laws_eqSystem.mono _ _ _ _ _ _ _ _ _ _ _ _ _)
      | (with_reducible exact laws_heldIntS.mono _ _ _)
      | (with_reducible exact laws_markIntS.mono _ _ _)
      | (with_reducible exact laws_markSystem.mono _ _ _ _ _ _ _ _)
      | (with_reducible exact laws_toIntS.mono _ _)
      | (with_reducible exact laws_toSystem.mono _ _ _ _ _ _ _)
      | (with_reducible exact spec_VectorOf.mono _ _ _ _ _ _ _ _ _)
      | (with_reducible exact LeO.refl _)
      | (with_reducible exact LeO.none _)
      | (with_reducible refine LeO.ite ?_ ?_)
      | (with_reducible refine LeO.bind ?_ (fun _ => ?_))
      | exact ih0 _ _ _ _ _ _ _ _ _ _ _ _ _ _ _ _ _ _ _ _ _
      | exact ih1 _ _ _ _ _ _ _ _ _ _ _ _
      | exact ih2 _ _ _
      | exact impl_VectorOf.mono _ _ _ _ _ _ _ _ _
      | exact laws_eqIntS.mono _ _ _
      | exact laws_eqSystem.mono _ _ _ _ _ _ _ _ _ _ _ _ _
      | exact laws_heldIntS.mono _ _ _
      | exact laws_markIntS.mono _ _ _
      | exact laws_markSystem.mono _ _ _ _ _ _ _ _
      | exact laws_toIntS.mono _ _
      | exact laws_toSystem.mono _ _ _ _ _ _ _
      | exact spec_VectorOf.mono _ _ _ _ _ _ _ _ _
      | exact LeO.none _
      | refine LeO.ite ?_ ?_
      | refine LeO.bind ?_ (fun _ => ?_)
    · intro y0 y1 y2 y3 y4 y5 y6 y7 y8 y9 y10 y11
      unfold laws_FnExactVectorOf.j1
      repeat' first
      | (with_reducible exact ih0 _ _ _ _ _ _ _ _ _ _ _ _ _ _ _ _ _ _ _ _ _)
      | (with_reducible exact ih1 _ _ _ _ _ _ _ _ _ _ _ _)
      | (with_reducible exact ih2 _ _ _)
      | (with_reducible exact impl_VectorOf.mono _ _ _ _ _ _ _ _ _)
      | (with_reducible exact laws_eqIntS.mono _ _ _)
      | (with_reducible exact laws_eqSystem.mono _ _ _ _ _ _ _ _ _ _ _ _ _)
      | (with_reducible exact laws_heldIntS.mono _ _ _)
      | (with_reducible exact laws_markIntS.mono _ _ _)
      | (with_reducible exact laws_markSystem.mono _ _ _ _ _ _ _ _)
      | (with_reducible exact laws_toIntS.mono _ _)
      | (with_reducible exact laws_toSystem.mono _ _ _ _ _ _ _)
      | (with_reducible exact spec_VectorOf.mono _ _ _ _ _ _ _ _ _)
      | (with_reducible exact LeO.refl _)
      | (with_reducible exact LeO.none _)
      | (with_reducible refine LeO.ite ?_ ?_)
      | (with_reducible refine LeO.bind ?_ (fun _ => ?_))
      | exact ih0 _ _ _ _ _ _ _ _ _ _ _ _ _ _ _ _ _ _ _ _ _
      | exact ih1 _ _ _ _ _ _ _ _ _ _ _ _
      | exact ih2 _ _ _
      | exact impl_VectorOf.mono _ _ _ _ _ _ _ _ _
      | exact laws_eqIntS.mono _ _ _
      | exact laws_eqSystem.mono _ _ _ _ _ _ _ _ _ _ _ _ _
      | exact laws_heldIntS.mono _ _ _
      | exact laws_markIntS.mono _ _ _
      | exact laws_markSystem.mono _ _ _ _ _ _ _ _
      | exact laws_toIntS.mono _ _
      | exact laws_toSystem.mono _ _ _ _ _ _ _
      | exact spec_VectorOf.mono _ _ _ _ _ _ _ _ _
      | exact LeO.none _
      | refine LeO.ite ?_ ?_
      | refine LeO.bind ?_ (fun _ => ?_)
    · intro y0 y1 y2
      unfold laws_FnExactVectorOf.j2
      repeat' first
      | (with_reducible exact ih0 _ _ _ _ _ _ _ _ _ _ _ _ _ _ _ _ _ _ _ _ _)
      | (with_reducible exact ih1 _ _ _ _ _ _ _ _ _ _ _ _)
      | (with_reducible exact ih2 _ _ _)
      | (with_reducible exact impl_VectorOf.mono _ _ _ _ _ _ _ _ _)
      | (with_reducible exact laws_eqIntS.mono _ _ _)
      | (with_reducible exact laws_eqSystem.mono _ _ _ _ _ _ _ _ _ _ _ _ _)
      | (with_reducible exact laws_heldIntS.mono _ _ _)
      | (with_reducible exact laws_markIntS.mono _ _ _)
      | (with_reducible exact laws_markSystem.mono _ _ _ _ _ _ _ _)
      | (with_reducible exact laws_toIntS.mono _ _)
      | (with_reducible exact laws_toSystem.mono _ _ _ _ _ _ _)
      | (with_reducible exact spec_VectorOf.mono _ _ _ _ _ _ _ _ _)
      | (with_reducible exact LeO.refl _)
      | (with_reducible exact LeO.none _)
      | (with_reducible refine LeO.ite ?_ ?_)
      | (with_reducible refine LeO.bind ?_ (fun _ => ?_))
      | exact ih0 _ _ _ _ _ _ _ _ _ _ _ _ _ _ _ _ _ _ _ _ _
      | exact ih1 _ _ _ _ _ _ _ _ _ _ _ _
      | exact ih2 _ _ _
      | exact impl_VectorOf.mono _ _ _ _ _ _ _ _ _
      | exact laws_eqIntS.mono _ _ _
      | exact laws_eqSystem.mono _ _ _ _ _ _ _ _ _ _ _ _ _
      | exact laws_heldIntS.mono _ _ _
      | exact laws_markIntS.mono _ _ _
      | exact laws_markSystem.mono _ _ _ _ _ _ _ _
      | exact laws_toIntS.mono _ _
      | exact laws_toSystem.mono _ _ _ _ _ _ _
      | exact spec_VectorOf.mono _ _ _ _ _ _ _ _ _
      | exact LeO.none _
      | refine LeO.ite ?_ ?_
      | refine LeO.bind ?_ (fun _ => ?_)
theorem laws_FnExactVectorOf.mono : ∀ a0 a1 a2 a3 a4 a5 a6 a7 k, LeO (laws_FnExactVectorOf.f k a0 a1 a2 a3 a4 a5 a6 a7) (laws_FnExactVectorOf.f (k + 1) a0 a1 a2 a3 a4 a5 a6 a7) := by
  intro a0 a1 a2 a3 a4 a5 a6 a7 k
  obtain ⟨ih0, ih1, ih2⟩ := laws_FnExactVectorOf.mono_l k
  unfold laws_FnExactVectorOf.f
  repeat' first
      | (with_reducible exact ih0 _ _ _ _ _ _ _ _ _ _ _ _ _ _ _ _ _ _ _ _ _)
      | (with_reducible exact ih1 _ _ _ _ _ _ _ _ _ _ _ _)
      | (with_reducible exact ih2 _ _ _)
      | (with_reducible exact impl_VectorOf.mono _ _ _ _ _ _ _ _ _)
      | (with_reducible exact laws_eqIntS.mono _ _ _)
      | (with_reducible exact laws_eqSystem.mono _ _ _ _ _ _ _ _ _ _ _ _ _)
      | (with_reducible exact laws_heldIntS.mono _ _ _)
      | (with_reducible exact laws_markIntS.mono _ _ _)
      | (with_reducible exact laws_markSystem.mono _ _ _ _ _ _ _ _)
      | (with_reducible exact laws_toIntS.mono _ _)
      | (with_reducible exact laws_toSystem.mono _ _ _ _ _ _ _)
      | (with_reducible exact spec_VectorOf.mono _ _ _ _ _ _ _ _ _)
      | (with_reducible exact LeO.refl _)
      | (with_reducible exact LeO.none _)
      | (with_reducible refine LeO.ite ?_ ?_)
      | (with_reducible refine LeO.bind ?_ (fun _ => ?_))
      | exact ih0 _ _ _ _ _ _ _ _ _ _ _ _ _ _ _ _ _ _ _ _ _
      | exact ih1 _ _ _ _ _ _ _ _ _ _ _ _
      | exact ih2 _ _ _
      | exact impl_VectorOf.mono _ _ _ _ _ _ _ _ _
      | exact laws_eqIntS.mono _ _ _
      | exact laws_eqSystem.mono _ _ _ _ _ _ _ _ _ _ _ _ _
      | exact laws_heldIntS.mono _ _ _
      | exact laws_markIntS.mono _ _ _
      | exact laws_markSystem.mono _ _ _ _ _ _ _ _
      | exact laws_toIntS.mono _ _
      | exact laws_toSystem.mono _ _ _ _ _ _ _
      | exact spec_VectorOf.mono _ _ _ _ _ _ _ _ _
      | exact LeO.none _
      | refine LeO.ite ?_ ?_
      | refine LeO.bind ?_ (fun _ => ?_)
set_option maxHeartbeats 8000000 in
set_option maxRecDepth 100000 in
theorem laws_FnExactVectorOf.calls (k : Nat) (a0_0 : Int) (a0_1 : Int) (a0_2 : Int) (A0_3 : Option Addr) (c0_3 : Nat) (l0_3 : List (S105)) (A0_4 : Option Addr) (c0_4 : Nat) (l0_4 : List (S105)) (A0_5 : Option Addr) (c0_5 : Nat) (l0_5 : List (S105)) (A1 : Option Addr) (c1 : Nat) (l1 : List Int) (A2 : Option Addr) (c2 : Nat) (l2 : List Int) (r : Bool) (w : World) (hr0_3 : Kd.C k105 w A0_3 l0_3.length l0_3) (hc0_3 : l0_3.length ≤ c0_3) (hr0_4 : Kd.C k105 w A0_4 l0_4.length l0_4) (hc0_4 : l0_4.length ≤ c0_4) (hr0_5 : Kd.C k105 w A0_5 l0_5.length l0_5) (hc0_5 : l0_5.length ≤ c0_5) (hr1 : Kd.C (Kd.int .i64) w A1 l1.length l1) (hc1 : l1.length ≤ c1) (hr2 : Kd.C (Kd.int .i64) w A2 l2.length l2) (hc2 : l2.length ≤ c2) (hr_ : r = true) (h : laws_FnExactVectorOf.f k a0_0 a0_1 a0_2 l0_3 l0_4 l0_5 l1 l2 = some r) :
    Calls Try.prog 4 #[.agg #[.int .i64 a0_0, .int .i64 a0_1, .int .i64 a0_2, .slice A0_3 l0_3.length c0_3, .slice A0_4 l0_4.length c0_4, .slice A0_5 l0_5.length c0_5], .slice A1 l1.length c1, .slice A2 l2.length c2] w fun e w' => e = .returned (.bool r) ∧ Below w.heap.size w w' := by
  have hu24 := Try.underlying24
  have hu29 := Try.underlying29
  have HR0_3 := Aside0.mk hr0_3
  have HC0_3 := Aside0.mk hc0_3
  clear hr0_3 hc0_3
  have HR0_4 := Aside0.mk hr0_4
  have HC0_4 := Aside0.mk hc0_4
  clear hr0_4 hc0_4
  have HR0_5 := Aside0.mk hr0_5
  have HC0_5 := Aside0.mk hc0_5
  clear hr0_5 hc0_5
  have HR1 := Aside0.mk hr1
  have HC1 := Aside0.mk hc1
  clear hr1 hc1
  have HR2 := Aside0.mk hr2
  have HC2 := Aside0.mk hc2
  clear hr2 hc2
  have HB := Aside0.mk (Below.refl w.heap.size w)
  have H : (if (l1.length : Int) > 1048576 then (some true) else (if (l2.length : Int) > 1048576 then (some true) else ((laws_szSystem.f a0_0 a0_1 a0_2 l0_3 l0_4 l0_5 1048576).bind fun t102 => (if t102 < 0 then (some true) else ((laws_toSystem.f k a0_0 a0_1 a0_2 l0_3 l0_4 l0_5).bind fun bt103 => ((laws_toIntS.f k l1).bind fun t115 => ((laws_toIntS.f k l2).bind fun t118 => ((spec_VectorOf.f k bt103.1 bt103.2.1 bt103.2.2.1 bt103.2.2.2.1 bt103.2.2.2.2.1 bt103.2.2.2.2.2 t115 t118).bind fun bt121 => ((laws_toSystem.f k a0_0 a0_1 a0_2 l0_3 l0_4 l0_5).bind fun bt125 => ((laws_toIntS.f k l1).bind fun t138 => ((laws_toIntS.f k l2).bind fun t141 => ((impl_VectorOf.f k bt125.1 bt125.2.1 bt125.2.2.1 bt125.2.2.2.1 bt125.2.2.2.2.1 bt125.2.2.2.2.2 t138 t141).bind fun bt144 => ((laws_eqIntS.f k bt144.1 bt121.1).bind fun t148 => (if t148 = true then (laws_FnExactVectorOf.j0 k l1 l2 bt121.1 bt121.2 t138 t141 bt144.1 bt144.2 (bt144.2 != bt121.2) a0_0 a0_1 a0_2 l0_3 l0_4 l0_5 bt125.1 bt125.2.1 bt125.2.2.1 bt125.2.2.2.1 bt125.2.2.2.2.1 bt125.2.2.2.2.2) else (laws_FnExactVectorOf.j0 k l1 l2 bt121.1 bt121.2 t138 t141 bt144.1 bt144.2 true a0_0 a0_1 a0_2 l0_3 l0_4 l0_5 bt125.1 bt125.2.1 bt125.2.2.1 bt125.2.2.2.1 bt125.2.2.2.2.1 bt125.2.2.2.2.2))))))))))))))) = some r := h
  clear h
  by_cases c4 : (l1.length : Int) > 1048576
  · rw [if_pos c4] at H
    have c4b0 : decide (1048576 < (l1.length : Int)) = true := decide_eq_true c4
    have c4b1 : decide (1048576 < l1.length) = true := decide_eq_true (by omega)
    clear c4
    obtain rfl := Option.some.inj H
    go_enter Try.func4, Try.ntmps4
    go_wp2_with (first | ((with_reducible refine gate_dst (N := 3) rfl ?_); refine box_event ?hg (N := 3) ?hd (cs := #[.int .i64 a0_0, .int .i64 a0_1, .int .i64 a0_2, .slice A0_3 l0_3.length c0_3, .slice A0_4 l0_4.length c0_4, .slice A0_5 l0_5.length c0_5]) (t := 24) ?hr ?_; (case hd => rfl); (case hg => rfl); (case hr => first | (go_simp; done) | (go_simp; rfl)); intro gb101 hg w5 hbox hb; have n0_ := Aside0.mk (below_step qz0_ hb); have n1_ := Aside0.mk (hbox); have n2_ := Aside0.mk ((by rw [hg]; exact (below_size qz0_) : w.heap.size ≤ gb101)); have n3_ := Aside0.mk ((by rw [hg]; exact (below_size qz0_) : w.heap.size ≤ gb101)); clear HB; have HB := n0_; have BK101 := n1_; have GW101 := n2_; have GE101 := n3_; clear n0_ n1_ n2_ n3_; clear hb hbox hg))
    go_ret
    exact ⟨by first | rfl | (simp [errW_none, errW_some] <;> rfl) | (simp [*, errW_none, errW_some] <;> rfl), by repeat (first | (with_reducible first | exact HB.out | apply below_alloc | apply pw_below_drewN | apply below_drew1 | refine below_set ?_ GE101.out) | exact HB.out)⟩
  · rw [if_neg c4] at H
    have c4b0 : decide (1048576 < (l1.length : Int)) = false := decide_eq_false c4
    have c4b1 : decide (1048576 < l1.length) = false := decide_eq_false (by omega)
    clear c4
    by_cases c6 : (l2.length : Int) > 1048576
    · rw [if_pos c6] at H
      have c6b0 : decide (1048576 < (l2.length : Int)) = true := decide_eq_true c6
      have c6b1 : decide (1048576 < l2.length) = true := decide_eq_true (by omega)
      clear c6
      obtain rfl := Option.some.inj H
      go_enter Try.func4, Try.ntmps4
      go_wp2_with (first | ((with_reducible refine gate_dst (N := 3) rfl ?_); refine box_event ?hg (N := 3) ?hd (cs := #[.int .i64 a0_0, .int .i64 a0_1, .int .i64 a0_2, .slice A0_3 l0_3.length c0_3, .slice A0_4 l0_4.length c0_4, .slice A0_5 l0_5.length c0_5]) (t := 24) ?hr ?_; (case hd => rfl); (case hg => rfl); (case hr => first | (go_simp; done) | (go_simp; rfl)); intro gb101 hg w7 hbox hb; have n0_ := Aside0.mk (below_step qz0_ hb); have n1_ := Aside0.mk (hbox); have n2_ := Aside0.mk ((by rw [hg]; exact (below_size qz0_) : w.heap.size ≤ gb101)); have n3_ := Aside0.mk ((by rw [hg]; exact (below_size qz0_) : w.heap.size ≤ gb101)); clear HB; have HB := n0_; have BK101 := n1_; have GW101 := n2_; have GE101 := n3_; clear n0_ n1_ n2_ n3_; clear hb hbox hg))
      go_ret
      exact ⟨by first | rfl | (simp [errW_none, errW_some] <;> rfl) | (simp [*, errW_none, errW_some] <;> rfl), by repeat (first | (with_reducible first | exact HB.out | apply below_alloc | apply pw_below_drewN | apply below_drew1 | refine below_set ?_ GE101.out) | exact HB.out)⟩
    · rw [if_neg c6] at H
      have c6b0 : decide (1048576 < (l2.length : Int)) = false := decide_eq_false c6
      have c6b1 : decide (1048576 < l2.length) = false := decide_eq_false (by omega)
      clear c6
      replace H := Option.bind_eq_some_iff.mp H
      obtain ⟨t102, A80, H⟩ := H
      replace H : (if t102 < 0 then (some true) else ((laws_toSystem.f k a0_0 a0_1 a0_2 l0_3 l0_4 l0_5).bind fun bt103 => ((laws_toIntS.f k l1).bind fun t115 => ((laws_toIntS.f k l2).bind fun t118 => ((spec_VectorOf.f k bt103.1 bt103.2.1 bt103.2.2.1 bt103.2.2.2.1 bt103.2.2.2.2.1 bt103.2.2.2.2.2 t115 t118).bind fun bt121 => ((laws_toSystem.f k a0_0 a0_1 a0_2 l0_3 l0_4 l0_5).bind fun bt125 => ((laws_toIntS.f k l1).bind fun t138 => ((laws_toIntS.f k l2).bind fun t141 => ((impl_VectorOf.f k bt125.1 bt125.2.1 bt125.2.2.1 bt125.2.2.2.1 bt125.2.2.2.2.1 bt125.2.2.2.2.2 t138 t141).bind fun bt144 => ((laws_eqIntS.f k bt144.1 bt121.1).bind fun t148 => (if t148 = true then (laws_FnExactVectorOf.j0 k l1 l2 bt121.1 bt121.2 t138 t141 bt144.1 bt144.2 (bt144.2 != bt121.2) a0_0 a0_1 a0_2 l0_3 l0_4 l0_5 bt125.1 bt125.2.1 bt125.2.2.1 bt125.2.2.2.1 bt125.2.2.2.2.1 bt125.2.2.2.2.2) else (laws_FnExactVectorOf.j0 k l1 l2 bt121.1 bt121.2 t138 t141 bt144.1 bt144.2 true a0_0 a0_1 a0_2 l0_3 l0_4 l0_5 bt125.1 bt125.2.1 bt125.2.2.1 bt125.2.2.2.1 bt125.2.2.2.2.1 bt125.2.2.2.2.2)))))))))))) = some r := H
      have A8 := Aside0.mk A80
      clear A80
      by_cases c9 : t102 < 0
      · rw [if_pos c9] at H
        have c9b0 : decide (t102 < 0) = true := decide_eq_true c9
        clear c9
        obtain rfl := Option.some.inj H
        go_enter Try.func4, Try.ntmps4
        go_wp2_with (first | ((with_reducible refine gate_dst (N := 3) rfl ?_); refine box_event ?hg (N := 3) ?hd (cs := #[.int .i64 a0_0, .int .i64 a0_1, .int .i64 a0_2, .slice A0_3 l0_3.length c0_3, .slice A0_4 l0_4.length c0_4, .slice A0_5 l0_5.length c0_5]) (t := 24) ?hr ?_; (case hd => rfl); (case hg => rfl); (case hr => first | (go_simp; done) | (go_simp; rfl)); intro gb101 hg w10 hbox hb; have n0_ := Aside0.mk (below_step qz0_ hb); have n1_ := Aside0.mk (hbox); have n2_ := Aside0.mk ((by rw [hg]; exact (below_size qz0_) : w.heap.size ≤ gb101)); have n3_ := Aside0.mk ((by rw [hg]; exact (below_size qz0_) : w.heap.size ≤ gb101)); clear HB; have HB := n0_; have BK101 := n1_; have GW101 := n2_; have GE101 := n3_; clear n0_ n1_ n2_ n3_; clear hb hbox hg; have hcz11_0 : w10.cell? ⟨gb101, 0, none⟩ = some (.int .i64 a0_0) := (blk_cell BK101.out 0).trans rfl; have hcz11_1 : w10.cell? ⟨gb101, 1, none⟩ = some (.int .i64 a0_1) := (blk_cell BK101.out 1).trans rfl; have hcz11_2 : w10.cell? ⟨gb101, 2, none⟩ = some (.int .i64 a0_2) := (blk_cell BK101.out 2).trans rfl; have hcz11_3 : w10.cell? ⟨gb101, 3, none⟩ = some (.slice A0_3 l0_3.length c0_3) := (blk_cell BK101.out 3).trans rfl; have hcz11_4 : w10.cell? ⟨gb101, 4, none⟩ = some (.slice A0_4 l0_4.length c0_4) := (blk_cell BK101.out 4).trans rfl; have hcz11_5 : w10.cell? ⟨gb101, 5, none⟩ = some (.slice A0_5 l0_5.length c0_5) := (blk_cell BK101.out 5).trans rfl; have hfz11_0 := blk_frozen BK101.out 0; have hfz11_1 := blk_frozen BK101.out 1; have hfz11_2 := blk_frozen BK101.out 2; have hfz11_3 := blk_frozen BK101.out 3; have hfz11_4 := blk_frozen BK101.out 4; have hfz11_5 := blk_frozen BK101.out 5) | ((with_reducible refine gate_callee (f := 10) rfl ?_); refine goesL_ (some 28) rfl rfl Try.func10 (by kernel_rfl) rfl #[.agg #[.int .i64 a0_0, .int .i64 a0_1, .int .i64 a0_2, .slice A0_3 l0_3.length c0_3, .slice A0_4 l0_4.length c0_4, .slice A0_5 l0_5.length c0_5], .int .i64 1048576] rfl qz1_ ?_; (with_reducible refine (laws_szSystem.calls a0_0 a0_1 a0_2 _ _ l0_3 _ _ l0_4 _ _ l0_5 1048576 t102 _ ?side1 ?side2 ?side3 ?side4 ?side5 ?side6 A8.out).mono ?_); (case side1 => repeat (first | exact (Kd.C_below HR0_3.out HB.out) | (with_reducible refine Kd.C_alloc ?_ _) | (with_reducible refine Kd.C_drewN ?_ _) | (with_reducible refine Kd.C_drew ?_))); (case side2 => exact HC0_3.out); (case side3 => repeat (first | exact (Kd.C_below HR0_4.out HB.out) | (with_reducible refine Kd.C_alloc ?_ _) | (with_reducible refine Kd.C_drewN ?_ _) | (with_reducible refine Kd.C_drew ?_))); (case side4 => exact HC0_4.out); (case side5 => repeat (first | exact (Kd.C_below HR0_5.out HB.out) | (with_reducible refine Kd.C_alloc ?_ _) | (with_reducible refine Kd.C_drewN ?_ _) | (with_reducible refine Kd.C_drew ?_))); (case side6 => exact HC0_5.out); rintro e w12 ⟨rfl, hb⟩; refine ⟨_, rfl, ?_⟩; have n0_ := Aside0.mk (blk_below (g := gb101) (o := .cells #[.int .i64 a0_0, .int .i64 a0_1, .int .i64 a0_2, .slice A0_3 l0_3.length c0_3, .slice A0_4 l0_4.length c0_4, .slice A0_5 l0_5.length c0_5] 24 (0, 0)) qz3_ hb); have n1_ := Aside0.mk (below_step qz2_ hb); clear BK101; clear HB; have BK101 := n0_; have HB := n1_; clear n0_ n1_; (try clear hb); (try clear hb2); (try clear hk); (try clear hi)))
        go_ret
        exact ⟨by first | rfl | (simp [errW_none, errW_some] <;> rfl) | (simp [*, errW_none, errW_some] <;> rfl), by repeat (first | (with_reducible first | exact HB.out | apply below_alloc | apply pw_below_drewN | apply below_drew1 | refine below_set ?_ GE101.out) | exact HB.out)⟩
      · rw [if_neg c9] at H
        have c9b0 : decide (t102 < 0) = false := decide_eq_false c9
        clear c9
        replace H := Option.bind_eq_some_iff.mp H
        obtain ⟨⟨t103, t104, t105, t106, t109, t112⟩, A130, H⟩ := H
        replace H : ((laws_toIntS.f k l1).bind fun t115 => ((laws_toIntS.f k l2).bind fun t118 => ((spec_VectorOf.f k t103 t104 t105 t106 t109 t112 t115 t118).bind fun bt121 => ((laws_toSystem.f k a0_0 a0_1 a0_2 l0_3 l0_4 l0_5).bind fun bt125 => ((laws_toIntS.f k l1).bind fun t138 => ((laws_toIntS.f k l2).bind fun t141 => ((impl_VectorOf.f k bt125.1 bt125.2.1 bt125.2.2.1 bt125.2.2.2.1 bt125.2.2.2.2.1 bt125.2.2.2.2.2 t138 t141).bind fun bt144 => ((laws_eqIntS.f k bt144.1 bt121.1).bind fun t148 => (if t148 = true then (laws_FnExactVectorOf.j0 k l1 l2 bt121.1 bt121.2 t138 t141 bt144.1 bt144.2 (bt144.2 != bt121.2) a0_0 a0_1 a0_2 l0_3 l0_4 l0_5 bt125.1 bt125.2.1 bt125.2.2.1 bt125.2.2.2.1 bt125.2.2.2.2.1 bt125.2.2.2.2.2) else (laws_FnExactVectorOf.j0 k l1 l2 bt121.1 bt121.2 t138 t141 bt144.1 bt144.2 true a0_0 a0_1 a0_2 l0_3 l0_4 l0_5 bt125.1 bt125.2.1 bt125.2.2.1 bt125.2.2.2.1 bt125.2.2.2.2.1 bt125.2.2.2.2.2)))))))))) = some r := H
        have A13 := Aside0.mk A130
        clear A130
        replace H := Option.bind_eq_some_iff.mp H
        obtain ⟨t115, A140, H⟩ := H
        replace H : ((laws_toIntS.f k l2).bind fun t118 => ((spec_VectorOf.f k t103 t104 t105 t106 t109 t112 t115 t118).bind fun bt121 => ((laws_toSystem.f k a0_0 a0_1 a0_2 l0_3 l0_4 l0_5).bind fun bt125 => ((laws_toIntS.f k l1).bind fun t138 => ((laws_toIntS.f k l2).bind fun t141 => ((impl_VectorOf.f k bt125.1 bt125.2.1 bt125.2.2.1 bt125.2.2.2.1 bt125.2.2.2.2.1 bt125.2.2.2.2.2 t138 t141).bind fun bt144 => ((laws_eqIntS.f k bt144.1 bt121.1).bind fun t148 => (if t148 = true then (laws_FnExactVectorOf.j0 k l1 l2 bt121.1 bt121.2 t138 t141 bt144.1 bt144.2 (bt144.2 != bt121.2) a0_0 a0_1 a0_2 l0_3 l0_4 l0_5 bt125.1 bt125.2.1 bt125.2.2.1 bt125.2.2.2.1 bt125.2.2.2.2.1 bt125.2.2.2.2.2) else (laws_FnExactVectorOf.j0 k l1 l2 bt121.1 bt121.2 t138 t141 bt144.1 bt144.2 true a0_0 a0_1 a0_2 l0_3 l0_4 l0_5 bt125.1 bt125.2.1 bt125.2.2.1 bt125.2.2.2.1 bt125.2.2.2.2.1 bt125.2.2.2.2.2))))))))) = some r := H
        have A14 := Aside0.mk A140
        clear A140
        replace H := Option.bind_eq_some_iff.mp H
        obtain ⟨t118, A150, H⟩ := H
        replace H : ((spec_VectorOf.f k t103 t104 t105 t106 t109 t112 t115 t118).bind fun bt121 => ((laws_toSystem.f k a0_0 a0_1 a0_2 l0_3 l0_4 l0_5).bind fun bt125 => ((laws_toIntS.f k l1).bind fun t138 => ((laws_toIntS.f k l2).bind fun t141 => ((impl_VectorOf.f k bt125.1 bt125.2.1 bt125.2.2.1 bt125.2.2.2.1 bt125.2.2.2.2.1 bt125.2.2.2.2.2 t138 t141).bind fun bt144 => ((laws_eqIntS.f k bt144.1 bt121.1).bind fun t148 => (if t148 = true then (laws_FnExactVectorOf.j0 k l1 l2 bt121.1 bt121.2 t138 t141 bt144.1 bt144.2 (bt144.2 != bt121.2) a0_0 a0_1 a0_2 l0_3 l0_4 l0_5 bt125.1 bt125.2.1 bt125.2.2.1 bt125.2.2.2.1 bt125.2.2.2.2.1 bt125.2.2.2.2.2) else (laws_FnExactVectorOf.j0 k l1 l2 bt121.1 bt121.2 t138 t141 bt144.1 bt144.2 true a0_0 a0_1 a0_2 l0_3 l0_4 l0_5 bt125.1 bt125.2.1 bt125.2.2.1 bt125.2.2.2.1 bt125.2.2.2.2.1 bt125.2.2.2.2.2)))))))) = some r := H
        have A15 := Aside0.mk A150
        clear A150
        replace H := Option.bind_eq_some_iff.mp H
        obtain ⟨⟨t121, t124⟩, A160, H⟩ := H
        replace H : ((laws_toSystem.f k a0_0 a0_1 a0_2 l0_3 l0_4 l0_5).bind fun bt125 => ((laws_toIntS.f k l1).bind fun t138 => ((laws_toIntS.f k l2).bind fun t141 => ((impl_VectorOf.f k bt125.1 bt125.2.1 bt125.2.2.1 bt125.2.2.2.1 bt125.2.2.2.2.1 bt125.2.2.2.2.2 t138 t141).bind fun bt144 => ((laws_eqIntS.f k bt144.1 t121).bind fun t148 => (if t148 = true then (laws_FnExactVectorOf.j0 k l1 l2 t121 t124 t138 t141 bt144.1 bt144.2 (bt144.2 != t124) a0_0 a0_1 a0_2 l0_3 l0_4 l0_5 bt125.1 bt125.2.1 bt125.2.2.1 bt125.2.2.2.1 bt125.2.2.2.2.1 bt125.2.2.2.2.2) else (laws_FnExactVectorOf.j0 k l1 l2 t121 t124 t138 t141 bt144.1 bt144.2 true a0_0 a0_1 a0_2 l0_3 l0_4 l0_5 bt125.1 bt125.2.1 bt125.2.2.1 bt125.2.2.2.1 bt125.2.2.2.2.1 bt125.2.2.2.2.2))))))) = some r := H
        have A16 := Aside0.mk A160
        clear A160
        replace H := Option.bind_eq_some_iff.mp H
        obtain ⟨⟨t125, t126, t127, t128, t131, t134⟩, A170, H⟩ := H
        replace H : ((laws_toIntS.f k l1).bind fun t138 => ((laws_toIntS.f k l2).bind fun t141 => ((impl_VectorOf.f k t125 t126 t127 t128 t131 t134 t138 t141).bind fun bt144 => ((laws_eqIntS.f k bt144.1 t121).bind fun t148 => (if t148 = true then (laws_FnExactVectorOf.j0 k l1 l2 t121 t124 t138 t141 bt144.1 bt144.2 (bt144.2 != t124) a0_0 a0_1 a0_2 l0_3 l0_4 l0_5 t125 t126 t127 t128 t131 t134) else (laws_FnExactVectorOf.j0 k l1 l2 t121 t124 t138 t141 bt144.1 bt144.2 true a0_0 a0_1 a0_2 l0_3 l0_4 l0_5 t125 t126 t127 t128 t131 t134)))))) = some r := H
        have A17 := Aside0.mk A170
        clear A170
        replace H := Option.bind_eq_some_iff.mp H
        obtain ⟨t138, A180, H⟩ := H
        replace H : ((laws_toIntS.f k l2).bind fun t141 => ((impl_VectorOf.f k t125 t126 t127 t128 t131 t134 t138 t141).bind fun bt144 => ((laws_eqIntS.f k bt144.1 t121).bind fun t148 => (if t148 = true then (laws_FnExactVectorOf.j0 k l1 l2 t121 t124 t138 t141 bt144.1 bt144.2 (bt144.2 != t124) a0_0 a0_1 a0_2 l0_3 l0_4 l0_5 t125 t126 t127 t128 t131 t134) else (laws_FnExactVectorOf.j0 k l1 l2 t121 t124 t138 t141 bt144.1 bt144.2 true a0_0 a0_1 a0_2 l0_3 l0_4 l0_5 t125 t126 t127 t128 t131 t134))))) = some r := H
        have A18 := Aside0.mk A180
        clear A180
        replace H := Option.bind_eq_some_iff.mp H
        obtain ⟨t141, A190, H⟩ := H
        replace H : ((impl_VectorOf.f k t125 t126 t127 t128 t131 t134 t138 t141).bind fun bt144 => ((laws_eqIntS.f k bt144.1 t121).bind fun t148 => (if t148 = true then (laws_FnExactVectorOf.j0 k l1 l2 t121 t124 t138 t141 bt144.1 bt144.2 (bt144.2 != t124) a0_0 a0_1 a0_2 l0_3 l0_4 l0_5 t125 t126 t127 t128 t131 t134) else (laws_FnExactVectorOf.j0 k l1 l2 t121 t124 t138 t141 bt144.1 bt144.2 true a0_0 a0_1 a0_2 l0_3 l0_4 l0_5 t125 t126 t127 t128 t131 t134)))) = some r := H
        have A19 := Aside0.mk A190
        clear A190
        replace H := Option.bind_eq_some_iff.mp H
        obtain ⟨⟨t144, t147⟩, A200, H⟩ := H
        replace H : ((laws_eqIntS.f k t144 t121).bind fun t148 => (if t148 = true then (laws_FnExactVectorOf.j0 k l1 l2 t121 t124 t138 t141 t144 t147 (t147 != t124) a0_0 a0_1 a0_2 l0_3 l0_4 l0_5 t125 t126 t127 t128 t131 t134) else (laws_FnExactVectorOf.j0 k l1 l2 t121 t124 t138 t141 t144 t147 true a0_0 a0_1 a0_2 l0_3 l0_4 l0_5 t125 t126 t127 t128 t131 t134))) = some r := H
        have A20 := Aside0.mk A200
        clear A200
        have HC21 := Aside0.mk H
        clear H
        go_enter Try.func4, Try.ntmps4
        go_upto_region 14 with (first | ((with_reducible refine gate_dst (N := 3) rfl ?_); refine box_event ?hg (N := 3) ?hd (cs := #[.int .i64 a0_0, .int .i64 a0_1, .int .i64 a0_2, .slice A0_3 l0_3.length c0_3, .slice A0_4 l0_4.length c0_4, .slice A0_5 l0_5.length c0_5]) (t := 24) ?hr ?_; (case hd => rfl); (case hg => rfl); (case hr => first | (go_simp; done) | (go_simp; rfl)); intro gb101 hg w22 hbox hb; have n0_ := Aside0.mk (below_step qz0_ hb); have n1_ := Aside0.mk (hbox); have n2_ := Aside0.mk ((by rw [hg]; exact (below_size qz0_) : w.heap.size ≤ gb101)); have n3_ := Aside0.mk ((by rw [hg]; exact (below_size qz0_) : w.heap.size ≤ gb101)); clear HB; have HB := n0_; have BK101 := n1_; have GW101 := n2_; have GE101 := n3_; clear n0_ n1_ n2_ n3_; clear hb hbox hg; have hcz23_0 : w22.cell? ⟨gb101, 0, none⟩ = some (.int .i64 a0_0) := (blk_cell BK101.out 0).trans rfl; have hcz23_1 : w22.cell? ⟨gb101, 1, none⟩ = some (.int .i64 a0_1) := (blk_cell BK101.out 1).trans rfl; have hcz23_2 : w22.cell? ⟨gb101, 2, none⟩ = some (.int .i64 a0_2) := (blk_cell BK101.out 2).trans rfl; have hcz23_3 : w22.cell? ⟨gb101, 3, none⟩ = some (.slice A0_3 l0_3.length c0_3) := (blk_cell BK101.out 3).trans rfl; have hcz23_4 : w22.cell? ⟨gb101, 4, none⟩ = some (.slice A0_4 l0_4.length c0_4) := (blk_cell BK101.out 4).trans rfl; have hcz23_5 : w22.cell? ⟨gb101, 5, none⟩ = some (.slice A0_5 l0_5.length c0_5) := (blk_cell BK101.out 5).trans rfl; have hfz23_0 := blk_frozen BK101.out 0; have hfz23_1 := blk_frozen BK101.out 1; have hfz23_2 := blk_frozen BK101.out 2; have hfz23_3 := blk_frozen BK101.out 3; have hfz23_4 := blk_frozen BK101.out 4; have hfz23_5 := blk_frozen BK101.out 5) | ((with_reducible refine gate_callee (f := 10) rfl ?_); refine goesL_ (some 28) rfl rfl Try.func10 (by kernel_rfl) rfl #[.agg #[.int .i64 a0_0, .int .i64 a0_1, .int .i64 a0_2, .slice A0_3 l0_3.length c0_3, .slice A0_4 l0_4.length c0_4, .slice A0_5 l0_5.length c0_5], .int .i64 1048576] rfl qz1_ ?_; (with_reducible refine (laws_szSystem.calls a0_0 a0_1 a0_2 _ _ l0_3 _ _ l0_4 _ _ l0_5 1048576 t102 _ ?side1 ?side2 ?side3 ?side4 ?side5 ?side6 A8.out).mono ?_); (case side1 => repeat (first | exact (Kd.C_below HR0_3.out HB.out) | (with_reducible refine Kd.C_alloc ?_ _) | (with_reducible refine Kd.C_drewN ?_ _) | (with_reducible refine Kd.C_drew ?_))); (case side2 => exact HC0_3.out); (case side3 => repeat (first | exact (Kd.C_below HR0_4.out HB.out) | (with_reducible refine Kd.C_alloc ?_ _) | (with_reducible refine Kd.C_drewN ?_ _) | (with_reducible refine Kd.C_drew ?_))); (case side4 => exact HC0_4.out); (case side5 => repeat (first | exact (Kd.C_below HR0_5.out HB.out) | (with_reducible refine Kd.C_alloc ?_ _) | (with_reducible refine Kd.C_drewN ?_ _) | (with_reducible refine Kd.C_drew ?_))); (case side6 => exact HC0_5.out); rintro e w24 ⟨rfl, hb⟩; refine ⟨_, rfl, ?_⟩; have n0_ := Aside0.mk (blk_below (g := gb101) (o := .cells #[.int .i64 a0_0, .int .i64 a0_1, .int .i64 a0_2, .slice A0_3 l0_3.length c0_3, .slice A0_4 l0_4.length c0_4, .slice A0_5 l0_5.length c0_5] 24 (0, 0)) qz3_ hb); have n1_ := Aside0.mk (below_step qz2_ hb); clear BK101; clear HB; have BK101 := n0_; have HB := n1_; clear n0_ n1_; (try clear hb); (try clear hb2); (try clear hk); (try clear hi); have hcz25_0 : w24.cell? ⟨gb101, 0, none⟩ = some (.int .i64 a0_0) := (blk_cell BK101.out 0).trans rfl; have hcz25_1 : w24.cell? ⟨gb101, 1, none⟩ = some (.int .i64 a0_1) := (blk_cell BK101.out 1).trans rfl; have hcz25_2 : w24.cell? ⟨gb101, 2, none⟩ = some (.int .i64 a0_2) := (blk_cell BK101.out 2).trans rfl; have hcz25_3 : w24.cell? ⟨gb101, 3, none⟩ = some (.slice A0_3 l0_3.length c0_3) := (blk_cell BK101.out 3).trans rfl; have hcz25_4 : w24.cell? ⟨gb101, 4, none⟩ = some (.slice A0_4 l0_4.length c0_4) := (blk_cell BK101.out 4).trans rfl; have hcz25_5 : w24.cell? ⟨gb101, 5, none⟩ = some (.slice A0_5 l0_5.length c0_5) := (blk_cell BK101.out 5).trans rfl; have hfz25_0 := blk_frozen BK101.out 0; have hfz25_1 := blk_frozen BK101.out 1; have hfz25_2 := blk_frozen BK101.out 2; have hfz25_3 := blk_frozen BK101.out 3; have hfz25_4 := blk_frozen BK101.out 4; have hfz25_5 := blk_frozen BK101.out 5) | ((with_reducible refine gate_callee (f := 12) rfl ?_); refine goesL_ (some 33) rfl rfl Try.func12 (by kernel_rfl) rfl #[.agg #[.int .i64 a0_0, .int .i64 a0_1, .int .i64 a0_2, .slice A0_3 l0_3.length c0_3, .slice A0_4 l0_4.length c0_4, .slice A0_5 l0_5.length c0_5]] rfl qz1_ ?_; (with_reducible refine (laws_toSystem.calls k a0_0 a0_1 a0_2 _ _ l0_3 _ _ l0_4 _ _ l0_5 t103 t104 t105 t106 t109 t112 _ ?side1 ?side2 ?side3 ?side4 ?side5 ?side6 A13.out).mono ?_); (case side1 => repeat (first | exact (Kd.C_below HR0_3.out HB.out) | (with_reducible refine Kd.C_alloc ?_ _) | (with_reducible refine Kd.C_drewN ?_ _) | (with_reducible refine Kd.C_drew ?_))); (case side2 => exact HC0_3.out); (case side3 => repeat (first | exact (Kd.C_below HR0_4.out HB.out) | (with_reducible refine Kd.C_alloc ?_ _) | (with_reducible refine Kd.C_drewN ?_ _) | (with_reducible refine Kd.C_drew ?_))); (case side4 => exact HC0_4.out); (case side5 => repeat (first | exact (Kd.C_below HR0_5.out HB.out) | (with_reducible refine Kd.C_alloc ?_ _) | (with_reducible refine Kd.C_drewN ?_ _) | (with_reducible refine Kd.C_drew ?_))); (case side6 => exact HC0_5.out); rintro e w26 ⟨v107, v110, v113, rfl, ho0, ho1, ho2, hb⟩; refine ⟨_, rfl, ?_⟩; have n0_ := Aside0.mk (Kd.R_lower ho0 (below_size qz2_)); have n1_ := Aside0.mk (Kd.R_lower ho1 (below_size qz2_)); have n2_ := Aside0.mk (Kd.R_lower ho2 (below_size qz2_)); have n3_ := Aside0.mk (blk_below (g := gb101) (o := .cells #[.int .i64 a0_0, .int .i64 a0_1, .int .i64 a0_2, .slice A0_3 l0_3.length c0_3, .slice A0_4 l0_4.length c0_4, .slice A0_5 l0_5.length c0_5] 24 (0, 0)) qz3_ hb); have n4_ := Aside0.mk (below_step qz2_ hb); clear BK101; clear HB; have HO108 := n0_; have HO111 := n1_; have HO114 := n2_; have BK101 := n3_; have HB := n4_; clear n0_ n1_ n2_ n3_ n4_; (try clear hb); (try clear hb2); (try clear hk); (try clear hi); (try clear ho0); (try clear ho1); (try clear ho2)) | ((with_reducible refine gate_callee (f := 16) rfl ?_); refine goesL_ (some 35) rfl rfl Try.func16 (by kernel_rfl) rfl #[.slice A1 l1.length c1] rfl qz1_ ?_; (with_reducible refine (laws_toIntS.calls k _ _ l1 t115 _ ?side1 ?side2 A14.out).mono ?_); (case side1 => repeat (first | exact (Kd.C_below HR1.out HB.out) | (with_reducible refine Kd.C_alloc ?_ _) | (with_reducible refine Kd.C_drewN ?_ _) | (with_reducible refine Kd.C_drew ?_))); (case side2 => exact HC1.out); rintro e w27 ⟨v116, rfl, ho0, hb⟩; refine ⟨_, rfl, ?_⟩; have n0_ := Aside0.mk (Kd.R_below qz11_ hb); have n1_ := Aside0.mk (Kd.R_below qz12_ hb); have n2_ := Aside0.mk (Kd.R_below qz13_ hb); have n3_ := Aside0.mk (Kd.R_lower ho0 (below_size qz2_)); have n4_ := Aside0.mk (blk_below (g := gb101) (o := .cells #[.int .i64 a0_0, .int .i64 a0_1, .int .i64 a0_2, .slice A0_3 l0_3.length c0_3, .slice A0_4 l0_4.length c0_4, .slice A0_5 l0_5.length c0_5] 24 (0, 0)) qz3_ hb); have n5_ := Aside0.mk (below_step qz2_ hb); clear HO108; clear HO111; clear HO114; clear BK101; clear HB; have HO108 := n0_; have HO111 := n1_; have HO114 := n2_; have HO117 := n3_; have BK101 := n4_; have HB := n5_; clear n0_ n1_ n2_ n3_ n4_ n5_; (try clear hb); (try clear hb2); (try clear hk); (try clear hi); (try clear ho0)) | ((with_reducible refine gate_callee (f := 16) rfl ?_); refine goesL_ (some 37) rfl rfl Try.func16 (by kernel_rfl) rfl #[.slice A2 l2.length c2] rfl qz1_ ?_; (with_reducible refine (laws_toIntS.calls k _ _ l2 t118 _ ?side1 ?side2 A15.out).mono ?_); (case side1 => repeat (first | exact (Kd.C_below HR2.out HB.out) | (with_reducible refine Kd.C_alloc ?_ _) | (with_reducible refine Kd.C_drewN ?_ _) | (with_reducible refine Kd.C_drew ?_))); (case side2 => exact HC2.out); rintro e w28 ⟨v119, rfl, ho0, hb⟩; refine ⟨_, rfl, ?_⟩; have n0_ := Aside0.mk (Kd.R_below qz11_ hb); have n1_ := Aside0.mk (Kd.R_below qz12_ hb); have n2_ := Aside0.mk (Kd.R_below qz13_ hb); have n3_ := Aside0.mk (Kd.R_elder' qz14_ (Kd.R_base ho0) hb); have n4_ := Aside0.mk (Kd.R_lower (Kd.R_new' ho0 (Kd.R_lt qz14_)) (below_size qz2_)); have n5_ := Aside0.mk (blk_below (g := gb101) (o := .cells #[.int .i64 a0_0, .int .i64 a0_1, .int .i64 a0_2, .slice A0_3 l0_3.length c0_3, .slice A0_4 l0_4.length c0_4, .slice A0_5 l0_5.length c0_5] 24 (0, 0)) qz3_ hb); have n6_ := Aside0.mk (below_step qz2_ hb); clear HO108; clear HO111; clear HO114; clear HO117; clear BK101; clear HB; have HO108 := n0_; have HO111 := n1_; have HO114 := n2_; have HO117 := n3_; have HO120 := n4_; have BK101 := n5_; have HB := n6_; clear n0_ n1_ n2_ n3_ n4_ n5_ n6_; (try clear hb); (try clear hb2); (try clear hk); (try clear hi); (try clear ho0); obtain ⟨Ao29, co29, eo29⟩ := Kd.R_slice HO108.out; subst eo29; obtain ⟨Ao30, co30, eo30⟩ := Kd.R_slice HO111.out; subst eo30; obtain ⟨Ao31, co31, eo31⟩ := Kd.R_slice HO114.out; subst eo31; obtain ⟨Ao32, co32, eo32⟩ := Kd.R_slice HO117.out; subst eo32; obtain ⟨Ao33, co33, eo33⟩ := Kd.R_slice HO120.out; subst eo33) | ((with_reducible refine gate_callee (f := 15) rfl ?_); refine goesL_ (some 38) rfl rfl Try.func15 (by kernel_rfl) rfl #[.agg #[.int .i64 t103, .int .i64 t104, .int .i64 t105, .slice Ao29 t106.length co29, .slice Ao30 t109.length co30, .slice Ao31 t112.length co31], .slice Ao32 t115.length co32, .slice Ao33 t118.length co33] rfl qz1_ ?_; (with_reducible refine (spec_VectorOf.calls k t103 t104 t105 _ _ t106 _ _ t109 _ _ t112 _ _ t115 _ _ t118 t121 t124 _ ?side1 ?side2 ?side3 ?side4 ?side5 ?side6 ?side7 ?side8 ?side9 ?side10 A16.out).mono ?_); (case side1 => repeat (first | exact (Kd.R_reads' HO108.out).2.2 | (with_reducible refine Kd.C_alloc ?_ _) | (with_reducible refine Kd.C_drewN ?_ _) | (with_reducible refine Kd.C_drew ?_))); (case side2 => exact (Kd.R_reads' HO108.out).2.1); (case side3 => repeat (first | exact (Kd.R_reads' HO111.out).2.2 | (with_reducible refine Kd.C_alloc ?_ _) | (with_reducible refine Kd.C_drewN ?_ _) | (with_reducible refine Kd.C_drew ?_))); (case side4 => exact (Kd.R_reads' HO111.out).2.1); (case side5 => repeat (first | exact (Kd.R_reads' HO114.out).2.2 | (with_reducible refine Kd.C_alloc ?_ _) | (with_reducible refine Kd.C_drewN ?_ _) | (with_reducible refine Kd.C_drew ?_))); (case side6 => exact (Kd.R_reads' HO114.out).2.1); (case side7 => repeat (first | exact (Kd.R_reads' HO117.out).2.2 | (with_reducible refine Kd.C_alloc ?_ _) | (with_reducible refine Kd.C_drewN ?_ _) | (with_reducible refine Kd.C_drew ?_))); (case side8 => exact (Kd.R_reads' HO117.out).2.1); (case side9 => repeat (first | exact (Kd.R_reads' HO120.out).2.2 | (with_reducible refine Kd.C_alloc ?_ _) | (with_reducible refine Kd.C_drewN ?_ _) | (with_reducible refine Kd.C_drew ?_))); (case side10 => exact (Kd.R_reads' HO120.out).2.1); rintro e w34 ⟨v122, rfl, ho0, hb⟩; refine ⟨_, rfl, ?_⟩; have n0_ := Aside0.mk (Kd.R_below qz11_ hb); have n1_ := Aside0.mk (Kd.R_below qz12_ hb); have n2_ := Aside0.mk (Kd.R_below qz13_ hb); have n3_ := Aside0.mk (Kd.R_elder' qz14_ (Kd.R_base ho0) hb); have n4_ := Aside0.mk (Kd.R_elder' qz15_ (Kd.R_base ho0) hb); have n5_ := Aside0.mk (Kd.R_lower (Kd.R_new' (Kd.R_new' ho0 (Kd.R_lt qz14_)) (Kd.R_lt qz15_)) (below_size qz2_)); have n6_ := Aside0.mk (blk_below (g := gb101) (o := .cells #[.int .i64 a0_0, .int .i64 a0_1, .int .i64 a0_2, .slice A0_3 l0_3.length c0_3, .slice A0_4 l0_4.length c0_4, .slice A0_5 l0_5.length c0_5] 24 (0, 0)) qz3_ hb); have n7_ := Aside0.mk (below_step qz2_ hb); clear HO108; clear HO111; clear HO114; clear HO117; clear HO120; clear BK101; clear HB; have HO108 := n0_; have HO111 := n1_; have HO114 := n2_; have HO117 := n3_; have HO120 := n4_; have HO123 := n5_; have BK101 := n6_; have HB := n7_; clear n0_ n1_ n2_ n3_ n4_ n5_ n6_ n7_; (try clear hb); (try clear hb2); (try clear hk); (try clear hi); (try clear ho0); have hcz35_0 : w34.cell? ⟨gb101, 0, none⟩ = some (.int .i64 a0_0) := (blk_cell BK101.out 0).trans rfl; have hcz35_1 : w34.cell? ⟨gb101, 1, none⟩ = some (.int .i64 a0_1) := (blk_cell BK101.out 1).trans rfl; have hcz35_2 : w34.cell? ⟨gb101, 2, none⟩ = some (.int .i64 a0_2) := (blk_cell BK101.out 2).trans rfl; have hcz35_3 : w34.cell? ⟨gb101, 3, none⟩ = some (.slice A0_3 l0_3.length c0_3) := (blk_cell BK101.out 3).trans rfl; have hcz35_4 : w34.cell? ⟨gb101, 4, none⟩ = some (.slice A0_4 l0_4.length c0_4) := (blk_cell BK101.out 4).trans rfl; have hcz35_5 : w34.cell? ⟨gb101, 5, none⟩ = some (.slice A0_5 l0_5.length c0_5) := (blk_cell BK101.out 5).trans rfl; have hfz35_0 := blk_frozen BK101.out 0; have hfz35_1 := blk_frozen BK101.out 1; have hfz35_2 := blk_frozen BK101.out 2; have hfz35_3 := blk_frozen BK101.out 3; have hfz35_4 := blk_frozen BK101.out 4; have hfz35_5 := blk_frozen BK101.out 5) | ((with_reducible refine gate_callee (f := 12) rfl ?_); refine goesL_ (some 42) rfl rfl Try.func12 (by kernel_rfl) rfl #[.agg #[.int .i64 a0_0, .int .i64 a0_1, .int .i64 a0_2, .slice A0_3 l0_3.length c0_3, .slice A0_4 l0_4.length c0_4, .slice A0_5 l0_5.length c0_5]] rfl qz1_ ?_; (with_reducible refine (laws_toSystem.calls k a0_0 a0_1 a0_2 _ _ l0_3 _ _ l0_4 _ _ l0_5 t125 t126 t127 t128 t131 t134 _ ?side1 ?side2 ?side3 ?side4 ?side5 ?side6 A17.out).mono ?_); (case side1 => repeat (first | exact (Kd.C_below HR0_3.out HB.out) | (with_reducible refine Kd.C_alloc ?_ _) | (with_reducible refine Kd.C_drewN ?_ _) | (with_reducible refine Kd.C_drew ?_))); (case side2 => exact HC0_3.out); (case side3 => repeat (first | exact (Kd.C_below HR0_4.out HB.out) | (with_reducible refine Kd.C_alloc ?_ _) | (with_reducible refine Kd.C_drewN ?_ _) | (with_reducible refine Kd.C_drew ?_))); (case side4 => exact HC0_4.out); (case side5 => repeat (first | exact (Kd.C_below HR0_5.out HB.out) | (with_reducible refine Kd.C_alloc ?_ _) | (with_reducible refine Kd.C_drewN ?_ _) | (with_reducible refine Kd.C_drew ?_))); (case side6 => exact HC0_5.out); rintro e w36 ⟨v129, v132, v135, rfl, ho0, ho1, ho2, hb⟩; refine ⟨_, rfl, ?_⟩; have n0_ := Aside0.mk (Kd.R_mono (Kd.R_told (Kd.R_told (Kd.R_told (Kd.R_old qz11_ hb) (Kd.R_base ho0)) (Kd.R_base ho1)) (Kd.R_base ho2)) (fun _ h_ => h_.1)); have n1_ := Aside0.mk (Kd.R_mono (Kd.R_told (Kd.R_told (Kd.R_told (Kd.R_old qz12_ hb) (Kd.R_base ho0)) (Kd.R_base ho1)) (Kd.R_base ho2)) (fun _ h_ => h_.1)); have n2_ := Aside0.mk (Kd.R_mono (Kd.R_told (Kd.R_told (Kd.R_told (Kd.R_old qz13_ hb) (Kd.R_base ho0)) (Kd.R_base ho1)) (Kd.R_base ho2)) (fun _ h_ => h_.1)); have n3_ := Aside0.mk (Kd.R_below qz14_ hb); have n4_ := Aside0.mk (Kd.R_below qz15_ hb); have n5_ := Aside0.mk (Kd.R_below qz16_ hb); have n6_ := Aside0.mk (Kd.R_lower (Kd.R_new' (Kd.R_new' (Kd.R_new' ho0 (Kd.R_lt qz11_)) (Kd.R_lt qz12_)) (Kd.R_lt qz13_)) (below_size qz2_)); have n7_ := Aside0.mk (Kd.R_lower (Kd.R_new' (Kd.R_new' (Kd.R_new' ho1 (Kd.R_lt qz11_)) (Kd.R_lt qz12_)) (Kd.R_lt qz13_)) (below_size qz2_)); have n8_ := Aside0.mk (Kd.R_lower (Kd.R_new' (Kd.R_new' (Kd.R_new' ho2 (Kd.R_lt qz11_)) (Kd.R_lt qz12_)) (Kd.R_lt qz13_)) (below_size qz2_)); have n9_ := Aside0.mk (blk_below (g := gb101) (o := .cells #[.int .i64 a0_0, .int .i64 a0_1, .int .i64 a0_2, .slice A0_3 l0_3.length c0_3, .slice A0_4 l0_4.length c0_4, .slice A0_5 l0_5.length c0_5] 24 (0, 0)) qz3_ hb); have n10_ := Aside0.mk (below_step qz2_ hb); clear HO108; clear HO111; clear HO114; clear HO117; clear HO120; clear HO123; clear BK101; clear HB; have HO108 := n0_; have HO111 := n1_; have HO114 := n2_; have HO117 := n3_; have HO120 := n4_; have HO123 := n5_; have HO130 := n6_; have HO133 := n7_; have HO136 := n8_; have BK101 := n9_; have HB := n10_; clear n0_ n1_ n2_ n3_ n4_ n5_ n6_ n7_ n8_ n9_ n10_; (try clear hb); (try clear hb2); (try clear hk); (try clear hi); (try clear ho0); (try clear ho1); (try clear ho2)) | ((with_reducible refine gate_dst (N := 10) rfl ?_); refine box_event ?hg (N := 10) ?hd (cs := #[.int .i64 0, .int .i64 0, .int .i64 0, .slice none 0 0, .slice none 0 0, .slice none 0 0]) (t := 29) ?hr ?_; (case hd => rfl); (case hg => rfl); (case hr => first | (go_simp; done) | (go_simp; rfl)); intro gb137 hg w37 hbox hb; have n0_ := Aside0.mk (Kd.R_below qz11_ hb); have n1_ := Aside0.mk (Kd.R_below qz12_ hb); have n2_ := Aside0.mk (Kd.R_below qz13_ hb); have n3_ := Aside0.mk (Kd.R_below qz14_ hb); have n4_ := Aside0.mk (Kd.R_below qz15_ hb); have n5_ := Aside0.mk (Kd.R_below qz16_ hb); have n6_ := Aside0.mk (Kd.R_below (by (with_reducible repeat (first | apply Kd.R_alloc | apply Kd.R_drewN | apply Kd.R_drew)); exact HO130.out) hb); have n7_ := Aside0.mk (Kd.R_below (by (with_reducible repeat (first | apply Kd.R_alloc | apply Kd.R_drewN | apply Kd.R_drew)); exact HO133.out) hb); have n8_ := Aside0.mk (Kd.R_below (by (with_reducible repeat (first | apply Kd.R_alloc | apply Kd.R_drewN | apply Kd.R_drew)); exact HO136.out) hb); have n9_ := Aside0.mk (blk_below (g := gb101) (o := .cells #[.int .i64 a0_0, .int .i64 a0_1, .int .i64 a0_2, .slice A0_3 l0_3.length c0_3, .slice A0_4 l0_4.length c0_4, .slice A0_5 l0_5.length c0_5] 24 (0, 0)) qz3_ hb); have n10_ := Aside0.mk (below_step qz2_ hb); have n11_ := Aside0.mk (hbox); have n12_ := Aside0.mk ((by rw [hg]; exact (below_size qz2_) : w.heap.size ≤ gb137)); have n13_ := Aside0.mk ((by rw [hg]; exact (below_size qz2_) : w.heap.size ≤ gb137)); have n14_ := Aside0.mk ((by rw [hg]; exact Nat.ne_of_lt (blk_lt (g := gb101) (o := .cells #[.int .i64 a0_0, .int .i64 a0_1, .int .i64 a0_2, .slice A0_3 l0_3.length c0_3, .slice A0_4 l0_4.length c0_4, .slice A0_5 l0_5.length c0_5] 24 (0, 0)) qz3_) : gb101 ≠ gb137)); have n15_ := Aside0.mk ((by rw [hg]; exact Nat.ne_of_gt (blk_lt (g := gb101) (o := .cells #[.int .i64 a0_0, .int .i64 a0_1, .int .i64 a0_2, .slice A0_3 l0_3.length c0_3, .slice A0_4 l0_4.length c0_4, .slice A0_5 l0_5.length c0_5] 24 (0, 0)) qz3_) : gb137 ≠ gb101)); clear HO108; clear HO111; clear HO114; clear HO117; clear HO120; clear HO123; clear HO130; clear HO133; clear HO136; clear BK101; clear HB; have HO108 := n0_; have HO111 := n1_; have HO114 := n2_; have HO117 := n3_; have HO120 := n4_; have HO123 := n5_; have HO130 := n6_; have HO133 := n7_; have HO136 := n8_; have BK101 := n9_; have HB := n10_; have BK137 := n11_; have GW137 := n12_; have GE137 := n13_; have NB101_137 := n14_; have NB137_101 := n15_; clear n0_ n1_ n2_ n3_ n4_ n5_ n6_ n7_ n8_ n9_ n10_ n11_ n12_ n13_ n14_ n15_; clear hb hbox hg; have hnb38 := NB137_101.out; have hnc38 := NB101_137.out; have hcz39_0 : w37.cell? ⟨gb137, 0, none⟩ = some (.int .i64 0) := (blk_cell BK137.out 0).trans rfl; have hcz39_1 : w37.cell? ⟨gb137, 1, none⟩ = some (.int .i64 0) := (blk_cell BK137.out 1).trans rfl; have hcz39_2 : w37.cell? ⟨gb137, 2, none⟩ = some (.int .i64 0) := (blk_cell BK137.out 2).trans rfl; have hcz39_3 : w37.cell? ⟨gb137, 3, none⟩ = some (.slice none 0 0) := (blk_cell BK137.out 3).trans rfl; have hcz39_4 : w37.cell? ⟨gb137, 4, none⟩ = some (.slice none 0 0) := (blk_cell BK137.out 4).trans rfl; have hcz39_5 : w37.cell? ⟨gb137, 5, none⟩ = some (.slice none 0 0) := (blk_cell BK137.out 5).trans rfl; have hfz39_0 := blk_frozen BK137.out 0; have hfz39_1 := blk_frozen BK137.out 1; have hfz39_2 := blk_frozen BK137.out 2; have hfz39_3 := blk_frozen BK137.out 3; have hfz39_4 := blk_frozen BK137.out 4; have hfz39_5 := blk_frozen BK137.out 5; obtain ⟨Ao40, co40, eo40⟩ := Kd.R_slice HO130.out; subst eo40; obtain ⟨Ao41, co41, eo41⟩ := Kd.R_slice HO133.out; subst eo41; obtain ⟨Ao42, co42, eo42⟩ := Kd.R_slice HO136.out; subst eo42) | ((with_reducible refine gate_callee (f := 16) rfl ?_); refine goesL_ (some 44) rfl rfl Try.func16 (by kernel_rfl) rfl #[.slice A1 l1.length c1] rfl qz1_ ?_; (with_reducible refine (laws_toIntS.calls k _ _ l1 t138 _ ?side1 ?side2 A18.out).mono ?_); (case side1 => exact Kd.C_below HR1.out qz17_); (case side2 => exact HC1.out); rintro e w43 ⟨v139, rfl, ho0, hb⟩; refine ⟨_, rfl, ?_⟩; have n0_ := Aside0.mk (Kd.R_below (by (with_reducible repeat (first | apply Kd.R_alloc | apply Kd.R_drewN | apply Kd.R_drew)); exact (Kd.R_mono (Kd.R_far (p := ⟨gb137, 5, none⟩) (Kd.R_far (p := ⟨gb137, 4, none⟩) (Kd.R_far (p := ⟨gb137, 3, none⟩) (Kd.R_far (p := ⟨gb137, 2, none⟩) (Kd.R_far (p := ⟨gb137, 1, none⟩) (Kd.R_far (p := ⟨gb137, 0, none⟩) (Kd.R_types HO108.out BK137.out (by decide)) (fun _ hk => hk.2) (.int .i64 t125)) (fun _ hk => hk.2) (.int .i64 t126)) (fun _ hk => hk.2) (.int .i64 t127)) (fun _ hk => hk.2) (.slice Ao40 t128.length co40)) (fun _ hk => hk.2) (.slice Ao41 t131.length co41)) (fun _ hk => hk.2) (.slice Ao42 t134.length co42)) (fun _ h_ => h_.1))) hb); have n1_ := Aside0.mk (Kd.R_below (by (with_reducible repeat (first | apply Kd.R_alloc | apply Kd.R_drewN | apply Kd.R_drew)); exact (Kd.R_mono (Kd.R_far (p := ⟨gb137, 5, none⟩) (Kd.R_far (p := ⟨gb137, 4, none⟩) (Kd.R_far (p := ⟨gb137, 3, none⟩) (Kd.R_far (p := ⟨gb137, 2, none⟩) (Kd.R_far (p := ⟨gb137, 1, none⟩) (Kd.R_far (p := ⟨gb137, 0, none⟩) (Kd.R_types HO111.out BK137.out (by decide)) (fun _ hk => hk.2) (.int .i64 t125)) (fun _ hk => hk.2) (.int .i64 t126)) (fun _ hk => hk.2) (.int .i64 t127)) (fun _ hk => hk.2) (.slice Ao40 t128.length co40)) (fun _ hk => hk.2) (.slice Ao41 t131.length co41)) (fun _ hk => hk.2) (.slice Ao42 t134.length co42)) (fun _ h_ => h_.1))) hb); have n2_ := Aside0.mk (Kd.R_below (by (with_reducible repeat (first | apply Kd.R_alloc | apply Kd.R_drewN | apply Kd.R_drew)); exact (Kd.R_mono (Kd.R_far (p := ⟨gb137, 5, none⟩) (Kd.R_far (p := ⟨gb137, 4, none⟩) (Kd.R_far (p := ⟨gb137, 3, none⟩) (Kd.R_far (p := ⟨gb137, 2, none⟩) (Kd.R_far (p := ⟨gb137, 1, none⟩) (Kd.R_far (p := ⟨gb137, 0, none⟩) (Kd.R_types HO114.out BK137.out (by decide)) (fun _ hk => hk.2) (.int .i64 t125)) (fun _ hk => hk.2) (.int .i64 t126)) (fun _ hk => hk.2) (.int .i64 t127)) (fun _ hk => hk.2) (.slice Ao40 t128.length co40)) (fun _ hk => hk.2) (.slice Ao41 t131.length co41)) (fun _ hk => hk.2) (.slice Ao42 t134.length co42)) (fun _ h_ => h_.1))) hb); have n3_ := Aside0.mk (Kd.R_elder' (by (with_reducible repeat (first | apply Kd.R_alloc | apply Kd.R_drewN | apply Kd.R_drew)); exact (Kd.R_mono (Kd.R_far (p := ⟨gb137, 5, none⟩) (Kd.R_far (p := ⟨gb137, 4, none⟩) (Kd.R_far (p := ⟨gb137, 3, none⟩) (Kd.R_far (p := ⟨gb137, 2, none⟩) (Kd.R_far (p := ⟨gb137, 1, none⟩) (Kd.R_far (p := ⟨gb137, 0, none⟩) (Kd.R_types HO117.out BK137.out (by decide)) (fun _ hk => hk.2) (.int .i64 t125)) (fun _ hk => hk.2) (.int .i64 t126)) (fun _ hk => hk.2) (.int .i64 t127)) (fun _ hk => hk.2) (.slice Ao40 t128.length co40)) (fun _ hk => hk.2) (.slice Ao41 t131.length co41)) (fun _ hk => hk.2) (.slice Ao42 t134.length co42)) (fun _ h_ => h_.1))) (Kd.R_base ho0) hb); have n4_ := Aside0.mk (Kd.R_elder' (by (with_reducible repeat (first | apply Kd.R_alloc | apply Kd.R_drewN | apply Kd.R_drew)); exact (Kd.R_mono (Kd.R_far (p := ⟨gb137, 5, none⟩) (Kd.R_far (p := ⟨gb137, 4, none⟩) (Kd.R_far (p := ⟨gb137, 3, none⟩) (Kd.R_far (p := ⟨gb137, 2, none⟩) (Kd.R_far (p := ⟨gb137, 1, none⟩) (Kd.R_far (p := ⟨gb137, 0, none⟩) (Kd.R_types HO120.out BK137.out (by decide)) (fun _ hk => hk.2) (.int .i64 t125)) (fun _ hk => hk.2) (.int .i64 t126)) (fun _ hk => hk.2) (.int .i64 t127)) (fun _ hk => hk.2) (.slice Ao40 t128.length co40)) (fun _ hk => hk.2) (.slice Ao41 t131.length co41)) (fun _ hk => hk.2) (.slice Ao42 t134.length co42)) (fun _ h_ => h_.1))) (Kd.R_base ho0) hb); have n5_ := Aside0.mk (Kd.R_elder' (by (with_reducible repeat (first | apply Kd.R_alloc | apply Kd.R_drewN | apply Kd.R_drew)); exact (Kd.R_mono (Kd.R_far (p := ⟨gb137, 5, none⟩) (Kd.R_far (p := ⟨gb137, 4, none⟩) (Kd.R_far (p := ⟨gb137, 3, none⟩) (Kd.R_far (p := ⟨gb137, 2, none⟩) (Kd.R_far (p := ⟨gb137, 1, none⟩) (Kd.R_far (p := ⟨gb137, 0, none⟩) (Kd.R_types HO123.out BK137.out (by decide)) (fun _ hk => hk.2) (.int .i64 t125)) (fun _ hk => hk.2) (.int .i64 t126)) (fun _ hk => hk.2) (.int .i64 t127)) (fun _ hk => hk.2) (.slice Ao40 t128.length co40)) (fun _ hk => hk.2) (.slice Ao41 t131.length co41)) (fun _ hk => hk.2) (.slice Ao42 t134.length co42)) (fun _ h_ => h_.1))) (Kd.R_base ho0) hb); have n6_ := Aside0.mk (Kd.R_below (by (with_reducible repeat (first | apply Kd.R_alloc | apply Kd.R_drewN | apply Kd.R_drew)); exact (Kd.R_mono (Kd.R_far (p := ⟨gb137, 5, none⟩) (Kd.R_far (p := ⟨gb137, 4, none⟩) (Kd.R_far (p := ⟨gb137, 3, none⟩) (Kd.R_far (p := ⟨gb137, 2, none⟩) (Kd.R_far (p := ⟨gb137, 1, none⟩) (Kd.R_far (p := ⟨gb137, 0, none⟩) (Kd.R_types HO130.out BK137.out (by decide)) (fun _ hk => hk.2) (.int .i64 t125)) (fun _ hk => hk.2) (.int .i64 t126)) (fun _ hk => hk.2) (.int .i64 t127)) (fun _ hk => hk.2) (.slice Ao40 t128.length co40)) (fun _ hk => hk.2) (.slice Ao41 t131.length co41)) (fun _ hk => hk.2) (.slice Ao42 t134.length co42)) (fun _ h_ => h_.1))) hb); have n7_ := Aside0.mk (Kd.R_below (by (with_reducible repeat (first | apply Kd.R_alloc | apply Kd.R_drewN | apply Kd.R_drew)); exact (Kd.R_mono (Kd.R_far (p := ⟨gb137, 5, none⟩) (Kd.R_far (p := ⟨gb137, 4, none⟩) (Kd.R_far (p := ⟨gb137, 3, none⟩) (Kd.R_far (p := ⟨gb137, 2, none⟩) (Kd.R_far (p := ⟨gb137, 1, none⟩) (Kd.R_far (p := ⟨gb137, 0, none⟩) (Kd.R_types HO133.out BK137.out (by decide)) (fun _ hk => hk.2) (.int .i64 t125)) (fun _ hk => hk.2) (.int .i64 t126)) (fun _ hk => hk.2) (.int .i64 t127)) (fun _ hk => hk.2) (.slice Ao40 t128.length co40)) (fun _ hk => hk.2) (.slice Ao41 t131.length co41)) (fun _ hk => hk.2) (.slice Ao42 t134.length co42)) (fun _ h_ => h_.1))) hb); have n8_ := Aside0.mk (Kd.R_below (by (with_reducible repeat (first | apply Kd.R_alloc | apply Kd.R_drewN | apply Kd.R_drew)); exact (Kd.R_mono (Kd.R_far (p := ⟨gb137, 5, none⟩) (Kd.R_far (p := ⟨gb137, 4, none⟩) (Kd.R_far (p := ⟨gb137, 3, none⟩) (Kd.R_far (p := ⟨gb137, 2, none⟩) (Kd.R_far (p := ⟨gb137, 1, none⟩) (Kd.R_far (p := ⟨gb137, 0, none⟩) (Kd.R_types HO136.out BK137.out (by decide)) (fun _ hk => hk.2) (.int .i64 t125)) (fun _ hk => hk.2) (.int .i64 t126)) (fun _ hk => hk.2) (.int .i64 t127)) (fun _ hk => hk.2) (.slice Ao40 t128.length co40)) (fun _ hk => hk.2) (.slice Ao41 t131.length co41)) (fun _ hk => hk.2) (.slice Ao42 t134.length co42)) (fun _ h_ => h_.1))) hb); have n9_ := Aside0.mk (Kd.R_lower (Kd.R_new' (Kd.R_new' (Kd.R_new' ho0 (Kd.R_lt (by (with_reducible repeat (first | apply Kd.R_alloc | apply Kd.R_drewN | apply Kd.R_drew)); exact (Kd.R_mono (Kd.R_far (p := ⟨gb137, 5, none⟩) (Kd.R_far (p := ⟨gb137, 4, none⟩) (Kd.R_far (p := ⟨gb137, 3, none⟩) (Kd.R_far (p := ⟨gb137, 2, none⟩) (Kd.R_far (p := ⟨gb137, 1, none⟩) (Kd.R_far (p := ⟨gb137, 0, none⟩) (Kd.R_types HO117.out BK137.out (by decide)) (fun _ hk => hk.2) (.int .i64 t125)) (fun _ hk => hk.2) (.int .i64 t126)) (fun _ hk => hk.2) (.int .i64 t127)) (fun _ hk => hk.2) (.slice Ao40 t128.length co40)) (fun _ hk => hk.2) (.slice Ao41 t131.length co41)) (fun _ hk => hk.2) (.slice Ao42 t134.length co42)) (fun _ h_ => h_.1))))) (Kd.R_lt (by (with_reducible repeat (first | apply Kd.R_alloc | apply Kd.R_drewN | apply Kd.R_drew)); exact (Kd.R_mono (Kd.R_far (p := ⟨gb137, 5, none⟩) (Kd.R_far (p := ⟨gb137, 4, none⟩) (Kd.R_far (p := ⟨gb137, 3, none⟩) (Kd.R_far (p := ⟨gb137, 2, none⟩) (Kd.R_far (p := ⟨gb137, 1, none⟩) (Kd.R_far (p := ⟨gb137, 0, none⟩) (Kd.R_types HO120.out BK137.out (by decide)) (fun _ hk => hk.2) (.int .i64 t125)) (fun _ hk => hk.2) (.int .i64 t126)) (fun _ hk => hk.2) (.int .i64 t127)) (fun _ hk => hk.2) (.slice Ao40 t128.length co40)) (fun _ hk => hk.2) (.slice Ao41 t131.length co41)) (fun _ hk => hk.2) (.slice Ao42 t134.length co42)) (fun _ h_ => h_.1))))) (Kd.R_lt (by (with_reducible repeat (first | apply Kd.R_alloc | apply Kd.R_drewN | apply Kd.R_drew)); exact (Kd.R_mono (Kd.R_far (p := ⟨gb137, 5, none⟩) (Kd.R_far (p := ⟨gb137, 4, none⟩) (Kd.R_far (p := ⟨gb137, 3, none⟩) (Kd.R_far (p := ⟨gb137, 2, none⟩) (Kd.R_far (p := ⟨gb137, 1, none⟩) (Kd.R_far (p := ⟨gb137, 0, none⟩) (Kd.R_types HO123.out BK137.out (by decide)) (fun _ hk => hk.2) (.int .i64 t125)) (fun _ hk => hk.2) (.int .i64 t126)) (fun _ hk => hk.2) (.int .i64 t127)) (fun _ hk => hk.2) (.slice Ao40 t128.length co40)) (fun _ hk => hk.2) (.slice Ao41 t131.length co41)) (fun _ hk => hk.2) (.slice Ao42 t134.length co42)) (fun _ h_ => h_.1))))) (below_size qz17_)); have n10_ := Aside0.mk (blk_below (g := gb101) (o := .cells #[.int .i64 a0_0, .int .i64 a0_1, .int .i64 a0_2, .slice A0_3 l0_3.length c0_3, .slice A0_4 l0_4.length c0_4, .slice A0_5 l0_5.length c0_5] 24 (0, 0)) (by (with_reducible repeat (first | refine blk_drewN ?_ _ | refine blk_drew ?_ | refine blk_alloc ?_ _)); refine blk_far ?_ NB101_137.out _; (with_reducible repeat (first | refine blk_drewN ?_ _ | refine blk_drew ?_ | refine blk_alloc ?_ _)); refine blk_far ?_ NB101_137.out _; (with_reducible repeat (first | refine blk_drewN ?_ _ | refine blk_drew ?_ | refine blk_alloc ?_ _)); refine blk_far ?_ NB101_137.out _; (with_reducible repeat (first | refine blk_drewN ?_ _ | refine blk_drew ?_ | refine blk_alloc ?_ _)); refine blk_far ?_ NB101_137.out _; (with_reducible repeat (first | refine blk_drewN ?_ _ | refine blk_drew ?_ | refine blk_alloc ?_ _)); refine blk_far ?_ NB101_137.out _; (with_reducible repeat (first | refine blk_drewN ?_ _ | refine blk_drew ?_ | refine blk_alloc ?_ _)); refine blk_far ?_ NB101_137.out _; (with_reducible repeat (first | refine blk_drewN ?_ _ | refine blk_drew ?_ | refine blk_alloc ?_ _)); exact BK101.out) hb); have n11_ := Aside0.mk (blk_below (g := gb137) (o := .cells #[.int .i64 t125, .int .i64 t126, .int .i64 t127, .slice Ao40 t128.length co40, .slice Ao41 t131.length co41, .slice Ao42 t134.length co42] 29 (0, 0)) (by (with_reducible repeat (first | refine blk_drewN ?_ _ | refine blk_drew ?_ | refine blk_alloc ?_ _)); refine blk_put (cs := #[.int .i64 t125, .int .i64 t126, .int .i64 t127, .slice Ao40 t128.length co40, .slice Ao41 t131.length co41, .slice none 0 0]) ?_ 5 _ rfl; (with_reducible repeat (first | refine blk_drewN ?_ _ | refine blk_drew ?_ | refine blk_alloc ?_ _)); refine blk_put (cs := #[.int .i64 t125, .int .i64 t126, .int .i64 t127, .slice Ao40 t128.length co40, .slice none 0 0, .slice none 0 0]) ?_ 4 _ rfl; (with_reducible repeat (first | refine blk_drewN ?_ _ | refine blk_drew ?_ | refine blk_alloc ?_ _)); refine blk_put (cs := #[.int .i64 t125, .int .i64 t126, .int .i64 t127, .slice none 0 0, .slice none 0 0, .slice none 0 0]) ?_ 3 _ rfl; (with_reducible repeat (first | refine blk_drewN ?_ _ | refine blk_drew ?_ | refine blk_alloc ?_ _)); refine blk_put (cs := #[.int .i64 t125, .int .i64 t126, .int .i64 0, .slice none 0 0, .slice none 0 0, .slice none 0 0]) ?_ 2 _ rfl; (with_reducible repeat (first | refine blk_drewN ?_ _ | refine blk_drew ?_ | refine blk_alloc ?_ _)); refine blk_put (cs := #[.int .i64 t125, .int .i64 0, .int .i64 0, .slice none 0 0, .slice none 0 0, .slice none 0 0]) ?_ 1 _ rfl; (with_reducible repeat (first | refine blk_drewN ?_ _ | refine blk_drew ?_ | refine blk_alloc ?_ _)); refine blk_put (cs := #[.int .i64 0, .int .i64 0, .int .i64 0, .slice none 0 0, .slice none 0 0, .slice none 0 0]) ?_ 0 _ rfl; (with_reducible repeat (first | refine blk_drewN ?_ _ | refine blk_drew ?_ | refine blk_alloc ?_ _)); exact BK137.out) hb); have n12_ := Aside0.mk (below_step qz17_ hb); clear HO108; clear HO111; clear HO114; clear HO117; clear HO120; clear HO123; clear HO130; clear HO133; clear HO136; clear BK101; clear BK137; clear HB; have HO108 := n0_; have HO111 := n1_; have HO114 := n2_; have HO117 := n3_; have HO120 := n4_; have HO123 := n5_; have HO130 := n6_; have HO133 := n7_; have HO136 := n8_; have HO140 := n9_; have BK101 := n10_; have BK137 := n11_; have HB := n12_; clear n0_ n1_ n2_ n3_ n4_ n5_ n6_ n7_ n8_ n9_ n10_ n11_ n12_; (try clear hb); (try clear hb2); (try clear hk); (try clear hi); (try clear ho0)) | ((with_reducible refine gate_callee (f := 16) rfl ?_); refine goesL_ (some 46) rfl rfl Try.func16 (by kernel_rfl) rfl #[.slice A2 l2.length c2] rfl qz1_ ?_; (with_reducible refine (laws_toIntS.calls k _ _ l2 t141 _ ?side1 ?side2 A19.out).mono ?_); (case side1 => repeat (first | exact (Kd.C_below HR2.out HB.out) | (with_reducible refine Kd.C_alloc ?_ _) | (with_reducible refine Kd.C_drewN ?_ _) | (with_reducible refine Kd.C_drew ?_))); (case side2 => exact HC2.out); rintro e w44 ⟨v142, rfl, ho0, hb⟩; refine ⟨_, rfl, ?_⟩; have n0_ := Aside0.mk (Kd.R_below qz11_ hb); have n1_ := Aside0.mk (Kd.R_below qz12_ hb); have n2_ := Aside0.mk (Kd.R_below qz13_ hb); have n3_ := Aside0.mk (Kd.R_elder' qz14_ (Kd.R_base ho0) hb); have n4_ := Aside0.mk (Kd.R_elder' qz15_ (Kd.R_base ho0) hb); have n5_ := Aside0.mk (Kd.R_elder' qz16_ (Kd.R_base ho0) hb); have n6_ := Aside0.mk (Kd.R_below (by (with_reducible repeat (first | apply Kd.R_alloc | apply Kd.R_drewN | apply Kd.R_drew)); exact HO130.out) hb); have n7_ := Aside0.mk (Kd.R_below (by (with_reducible repeat (first | apply Kd.R_alloc | apply Kd.R_drewN | apply Kd.R_drew)); exact HO133.out) hb); have n8_ := Aside0.mk (Kd.R_below (by (with_reducible repeat (first | apply Kd.R_alloc | apply Kd.R_drewN | apply Kd.R_drew)); exact HO136.out) hb); have n9_ := Aside0.mk (Kd.R_elder' (by (with_reducible repeat (first | apply Kd.R_alloc | apply Kd.R_drewN | apply Kd.R_drew)); exact HO140.out) (Kd.R_base ho0) hb); have n10_ := Aside0.mk (Kd.R_lower (Kd.R_new' (Kd.R_new' (Kd.R_new' (Kd.R_new' ho0 (Kd.R_lt qz14_)) (Kd.R_lt qz15_)) (Kd.R_lt qz16_)) (Kd.R_lt (by (with_reducible repeat (first | apply Kd.R_alloc | apply Kd.R_drewN | apply Kd.R_drew)); exact HO140.out))) (below_size qz17_)); have n11_ := Aside0.mk (blk_below (g := gb101) (o := .cells #[.int .i64 a0_0, .int .i64 a0_1, .int .i64 a0_2, .slice A0_3 l0_3.length c0_3, .slice A0_4 l0_4.length c0_4, .slice A0_5 l0_5.length c0_5] 24 (0, 0)) qz3_ hb); have n12_ := Aside0.mk (blk_below (g := gb137) (o := .cells #[.int .i64 t125, .int .i64 t126, .int .i64 t127, .slice Ao40 t128.length co40, .slice Ao41 t131.length co41, .slice Ao42 t134.length co42] 29 (0, 0)) qz18_ hb); have n13_ := Aside0.mk (below_step qz17_ hb); clear HO108; clear HO111; clear HO114; clear HO117; clear HO120; clear HO123; clear HO130; clear HO133; clear HO136; clear HO140; clear BK101; clear BK137; clear HB; have HO108 := n0_; have HO111 := n1_; have HO114 := n2_; have HO117 := n3_; have HO120 := n4_; have HO123 := n5_; have HO130 := n6_; have HO133 := n7_; have HO136 := n8_; have HO140 := n9_; have HO143 := n10_; have BK101 := n11_; have BK137 := n12_; have HB := n13_; clear n0_ n1_ n2_ n3_ n4_ n5_ n6_ n7_ n8_ n9_ n10_ n11_ n12_ n13_; (try clear hb); (try clear hb2); (try clear hk); (try clear hi); (try clear ho0); have hcz45_0 : w44.cell? ⟨gb137, 0, none⟩ = some (.int .i64 t125) := (blk_cell BK137.out 0).trans rfl; have hcz45_1 : w44.cell? ⟨gb137, 1, none⟩ = some (.int .i64 t126) := (blk_cell BK137.out 1).trans rfl; have hcz45_2 : w44.cell? ⟨gb137, 2, none⟩ = some (.int .i64 t127) := (blk_cell BK137.out 2).trans rfl; have hcz45_3 : w44.cell? ⟨gb137, 3, none⟩ = some (.slice Ao40 t128.length co40) := (blk_cell BK137.out 3).trans rfl; have hcz45_4 : w44.cell? ⟨gb137, 4, none⟩ = some (.slice Ao41 t131.length co41) := (blk_cell BK137.out 4).trans rfl; have hcz45_5 : w44.cell? ⟨gb137, 5, none⟩ = some (.slice Ao42 t134.length co42) := (blk_cell BK137.out 5).trans rfl; have hfz45_0 := blk_frozen BK137.out 0; have hfz45_1 := blk_frozen BK137.out 1; have hfz45_2 := blk_frozen BK137.out 2; have hfz45_3 := blk_frozen BK137.out 3; have hfz45_4 := blk_frozen BK137.out 4; have hfz45_5 := blk_frozen BK137.out 5; obtain ⟨Ao46, co46, eo46⟩ := Kd.R_slice HO140.out; subst eo46; obtain ⟨Ao47, co47, eo47⟩ := Kd.R_slice HO143.out; subst eo47) | ((with_reducible refine gate_callee (f := 17) rfl ?_); refine goesL_ (some 51) rfl rfl Try.func17 (by kernel_rfl) rfl #[.agg #[.int .i64 t125, .int .i64 t126, .int .i64 t127, .slice Ao40 t128.length co40, .slice Ao41 t131.length co41, .slice Ao42 t134.length co42], .slice Ao46 t138.length co46, .slice Ao47 t141.length co47] rfl qz1_ ?_; (with_reducible refine (impl_VectorOf.calls k t125 t126 t127 _ _ t128 _ _ t131 _ _ t134 _ _ t138 _ _ t141 t144 t147 _ ?side1 ?side2 ?side3 ?side4 ?side5 ?side6 ?side7 ?side8 ?side9 ?side10 A20.out).mono ?_); (case side1 => repeat (first | exact (Kd.R_reads' HO130.out).2.2 | (with_reducible refine Kd.C_alloc ?_ _) | (with_reducible refine Kd.C_drewN ?_ _) | (with_reducible refine Kd.C_drew ?_))); (case side2 => exact (Kd.R_reads' HO130.out).2.1); (case side3 => repeat (first | exact (Kd.R_reads' HO133.out).2.2 | (with_reducible refine Kd.C_alloc ?_ _) | (with_reducible refine Kd.C_drewN ?_ _) | (with_reducible refine Kd.C_drew ?_))); (case side4 => exact (Kd.R_reads' HO133.out).2.1); (case side5 => repeat (first | exact (Kd.R_reads' HO136.out).2.2 | (with_reducible refine Kd.C_alloc ?_ _) | (with_reducible refine Kd.C_drewN ?_ _) | (with_reducible refine Kd.C_drew ?_))); (case side6 => exact (Kd.R_reads' HO136.out).2.1); (case side7 => repeat (first | exact (Kd.R_reads' HO140.out).2.2 | (with_reducible refine Kd.C_alloc ?_ _) | (with_reducible refine Kd.C_drewN ?_ _) | (with_reducible refine Kd.C_drew ?_))); (case side8 => exact (Kd.R_reads' HO140.out).2.1); (case side9 => repeat (first | exact (Kd.R_reads' HO143.out).2.2 | (with_reducible refine Kd.C_alloc ?_ _) | (with_reducible refine Kd.C_drewN ?_ _) | (with_reducible refine Kd.C_drew ?_))); (case side10 => exact (Kd.R_reads' HO143.out).2.1); rintro e w48 ⟨v145, rfl, ho0, hb⟩; refine ⟨_, rfl, ?_⟩; have n0_ := Aside0.mk (Kd.R_below qz11_ hb); have n1_ := Aside0.mk (Kd.R_below qz12_ hb); have n2_ := Aside0.mk (Kd.R_below qz13_ hb); have n3_ := Aside0.mk (Kd.R_elder' qz14_ (Kd.R_base ho0) hb); have n4_ := Aside0.mk (Kd.R_elder' qz15_ (Kd.R_base ho0) hb); have n5_ := Aside0.mk (Kd.R_elder' qz16_ (Kd.R_base ho0) hb); have n6_ := Aside0.mk (Kd.R_below (by (with_reducible repeat (first | apply Kd.R_alloc | apply Kd.R_drewN | apply Kd.R_drew)); exact HO130.out) hb); have n7_ := Aside0.mk (Kd.R_below (by (with_reducible repeat (first | apply Kd.R_alloc | apply Kd.R_drewN | apply Kd.R_drew)); exact HO133.out) hb); have n8_ := Aside0.mk (Kd.R_below (by (with_reducible repeat (first | apply Kd.R_alloc | apply Kd.R_drewN | apply Kd.R_drew)); exact HO136.out) hb); have n9_ := Aside0.mk (Kd.R_elder' (by (with_reducible repeat (first | apply Kd.R_alloc | apply Kd.R_drewN | apply Kd.R_drew)); exact HO140.out) (Kd.R_base ho0) hb); have n10_ := Aside0.mk (Kd.R_elder' (by (with_reducible repeat (first | apply Kd.R_alloc | apply Kd.R_drewN | apply Kd.R_drew)); exact HO143.out) (Kd.R_base ho0) hb); have n11_ := Aside0.mk (Kd.R_lower (Kd.R_new' (Kd.R_new' (Kd.R_new' (Kd.R_new' (Kd.R_new' ho0 (Kd.R_lt qz14_)) (Kd.R_lt qz15_)) (Kd.R_lt qz16_)) (Kd.R_lt (by (with_reducible repeat (first | apply Kd.R_alloc | apply Kd.R_drewN | apply Kd.R_drew)); exact HO140.out))) (Kd.R_lt (by (with_reducible repeat (first | apply Kd.R_alloc | apply Kd.R_drewN | apply Kd.R_drew)); exact HO143.out))) (below_size qz17_)); have n12_ := Aside0.mk (blk_below (g := gb101) (o := .cells #[.int .i64 a0_0, .int .i64 a0_1, .int .i64 a0_2, .slice A0_3 l0_3.length c0_3, .slice A0_4 l0_4.length c0_4, .slice A0_5 l0_5.length c0_5] 24 (0, 0)) qz3_ hb); have n13_ := Aside0.mk (blk_below (g := gb137) (o := .cells #[.int .i64 t125, .int .i64 t126, .int .i64 t127, .slice Ao40 t128.length co40, .slice Ao41 t131.length co41, .slice Ao42 t134.length co42] 29 (0, 0)) qz18_ hb); have n14_ := Aside0.mk (below_step qz17_ hb); clear HO108; clear HO111; clear HO114; clear HO117; clear HO120; clear HO123; clear HO130; clear HO133; clear HO136; clear HO140; clear HO143; clear BK101; clear BK137; clear HB; have HO108 := n0_; have HO111 := n1_; have HO114 := n2_; have HO117 := n3_; have HO120 := n4_; have HO123 := n5_; have HO130 := n6_; have HO133 := n7_; have HO136 := n8_; have HO140 := n9_; have HO143 := n10_; have HO146 := n11_; have BK101 := n12_; have BK137 := n13_; have HB := n14_; clear n0_ n1_ n2_ n3_ n4_ n5_ n6_ n7_ n8_ n9_ n10_ n11_ n12_ n13_ n14_; (try clear hb); (try clear hb2); (try clear hk); (try clear hi); (try clear ho0)))
        (try simp only [Act.put, List.setIfInBounds_toArray, List.set_cons_zero, List.set_cons_succ])
        go_cut [62] (fun v62 wc => ∃ (kq : Nat) (x62_20 : Bool), v62 = .bool x62_20 ∧ Aside0 (laws_FnExactVectorOf.j0 kq l1 l2 t121 t124 t138 t141 t144 t147 x62_20 a0_0 a0_1 a0_2 l0_3 l0_4 l0_5 t125 t126 t127 t128 t131 t134 = some r) ∧ Aside0 (kq ≤ k) ∧ Aside0 (Kd.R (Kd.int .i64) 3 wc w.heap.size (fun k_ => some k_ ≠ ((.slice Ao46 t138.length co46) : Value).ownBlock ∧ some k_ ≠ ((.slice Ao47 t141.length co47) : Value).ownBlock ∧ some k_ ≠ (v145 : Value).ownBlock) v122 t121) ∧ Aside0 (Kd.R (Kd.int .i64) 3 wc w.heap.size (fun k_ => some k_ ≠ (v122 : Value).ownBlock ∧ some k_ ≠ ((.slice Ao47 t141.length co47) : Value).ownBlock ∧ some k_ ≠ (v145 : Value).ownBlock) (.slice Ao46 t138.length co46) t138) ∧ Aside0 (Kd.R (Kd.int .i64) 3 wc w.heap.size (fun k_ => some k_ ≠ (v122 : Value).ownBlock ∧ some k_ ≠ ((.slice Ao46 t138.length co46) : Value).ownBlock ∧ some k_ ≠ (v145 : Value).ownBlock) (.slice Ao47 t141.length co47) t141) ∧ Aside0 (Kd.R (Kd.int .i64) 3 wc w.heap.size (fun k_ => some k_ ≠ (v122 : Value).ownBlock ∧ some k_ ≠ ((.slice Ao46 t138.length co46) : Value).ownBlock ∧ some k_ ≠ ((.slice Ao47 t141.length co47) : Value).ownBlock) v145 t144) ∧ Aside0 (Kd.R k53 53 wc w.heap.size (fun k_ => some k_ ≠ ((.slice Ao41 t131.length co41) : Value).ownBlock ∧ some k_ ≠ ((.slice Ao42 t134.length co42) : Value).ownBlock) (.slice Ao40 t128.length co40) t128) ∧ Aside0 (Kd.R k53 53 wc w.heap.size (fun k_ => some k_ ≠ ((.slice Ao40 t128.length co40) : Value).ownBlock ∧ some k_ ≠ ((.slice Ao42 t134.length co42) : Value).ownBlock) (.slice Ao41 t131.length co41) t131) ∧ Aside0 (Kd.R k53 53 wc w.heap.size (fun k_ => some k_ ≠ ((.slice Ao40 t128.length co40) : Value).ownBlock ∧ some k_ ≠ ((.slice Ao41 t131.length co41) : Value).ownBlock) (.slice Ao42 t134.length co42) t134) ∧ Aside0 (wc.heap[gb101]? = some (.cells #[.int .i64 a0_0, .int .i64 a0_1, .int .i64 a0_2, (.slice A0_3 l0_3.length c0_3), (.slice A0_4 l0_4.length c0_4), (.slice A0_5 l0_5.length c0_5)] 24 (0, 0))) ∧ Aside0 (wc.heap[gb137]? = some (.cells #[.int .i64 t125, .int .i64 t126, .int .i64 t127, (.slice Ao40 t128.length co40), (.slice Ao41 t131.length co41), (.slice Ao42 t134.length co42)] 29 (0, 0))) ∧ Aside0 (Below w.heap.size w wc))
        case first =>
          have H := HC21.out
          clear HC21
          replace H := Option.bind_eq_some_iff.mp H
          obtain ⟨t148, A490, H⟩ := H
          replace H : (if t148 = true then (laws_FnExactVectorOf.j0 k l1 l2 t121 t124 t138 t141 t144 t147 (t147 != t124) a0_0 a0_1 a0_2 l0_3 l0_4 l0_5 t125 t126 t127 t128 t131 t134) else (laws_FnExactVectorOf.j0 k l1 l2 t121 t124 t138 t141 t144 t147 true a0_0 a0_1 a0_2 l0_3 l0_4 l0_5 t125 t126 t127 t128 t131 t134)) = some r := H
          have A49 := Aside0.mk A490
          clear A490
          by_cases c50 : t148 = true
          · subst c50
            have H1 : (laws_FnExactVectorOf.j0 k l1 l2 t121 t124 t138 t141 t144 t147 (t147 != t124) a0_0 a0_1 a0_2 l0_3 l0_4 l0_5 t125 t126 t127 t128 t131 t134) = some r := by rw [if_pos rfl] at H; exact H
            clear H
            have H := H1
            clear H1
            have H' := Aside0.mk H
            clear H
            obtain ⟨Ao51, co51, eo51⟩ := Kd.R_slice HO146.out
            subst eo51
            obtain ⟨Ao52, co52, eo52⟩ := Kd.R_slice HO123.out
            subst eo52
            go_wp2_with (first | ((with_reducible refine gate_callee (f := 18) rfl ?_); refine goesL_ (some 56) rfl rfl Try.func18 (by kernel_rfl) rfl #[.slice Ao51 t144.length co51, .slice Ao52 t121.length co52] rfl qz1_ ?_; (with_reducible refine (laws_eqIntS.calls k _ _ t144 _ _ t121 true _ ?side1 ?side2 ?side3 ?side4 A49.out).mono ?_); (case side1 => repeat (first | exact (Kd.R_reads' HO146.out).2.2 | (with_reducible refine Kd.C_alloc ?_ _) | (with_reducible refine Kd.C_drewN ?_ _) | (with_reducible refine Kd.C_drew ?_))); (case side2 => exact (Kd.R_reads' HO146.out).2.1); (case side3 => repeat (first | exact (Kd.R_reads' HO123.out).2.2 | (with_reducible refine Kd.C_alloc ?_ _) | (with_reducible refine Kd.C_drewN ?_ _) | (with_reducible refine Kd.C_drew ?_))); (case side4 => exact (Kd.R_reads' HO123.out).2.1); rintro e w' ⟨rfl, ⟨nd, rfl⟩⟩; refine ⟨_, rfl, ?_⟩))
            go_meet
            case rel => exact ⟨_, ((t147 != t124)), qz7_, H', ⟨by first | omega | exact Nat.le_refl _⟩, ⟨by (with_reducible repeat (first | apply Kd.R_alloc | apply Kd.R_drewN | apply Kd.R_drew)); exact Kd.R_mono HO123.out (fun _ hk => ⟨hk.1.1.2, ⟨hk.1.2, hk.2⟩⟩)⟩, ⟨by (with_reducible repeat (first | apply Kd.R_alloc | apply Kd.R_drewN | apply Kd.R_drew)); exact Kd.R_mono HO140.out (fun _ hk => ⟨hk.1.1.2, ⟨hk.1.2, hk.2⟩⟩)⟩, ⟨by (with_reducible repeat (first | apply Kd.R_alloc | apply Kd.R_drewN | apply Kd.R_drew)); exact Kd.R_mono HO143.out (fun _ hk => ⟨hk.1.1.2, ⟨hk.1.2, hk.2⟩⟩)⟩, ⟨by (with_reducible repeat (first | apply Kd.R_alloc | apply Kd.R_drewN | apply Kd.R_drew)); exact Kd.R_mono HO146.out (fun _ hk => ⟨hk.1.1.2, ⟨hk.1.2, hk.2⟩⟩)⟩, ⟨by (with_reducible repeat (first | apply Kd.R_alloc | apply Kd.R_drewN | apply Kd.R_drew)); exact Kd.R_mono HO130.out (fun _ hk => ⟨hk.1.1.1.1, hk.1.1.1.2⟩)⟩, ⟨by (with_reducible repeat (first | apply Kd.R_alloc | apply Kd.R_drewN | apply Kd.R_drew)); exact Kd.R_mono HO133.out (fun _ hk => ⟨hk.1.1.1.1, hk.1.1.1.2⟩)⟩, ⟨by (with_reducible repeat (first | apply Kd.R_alloc | apply Kd.R_drewN | apply Kd.R_drew)); exact Kd.R_mono HO136.out (fun _ hk => ⟨hk.1.1.1.1, hk.1.1.1.2⟩)⟩, ⟨by (with_reducible repeat (first | refine blk_drewN ?_ _ | refine blk_drew ?_ | refine blk_alloc ?_ _)); exact BK101.out⟩, ⟨by (with_reducible repeat (first | refine blk_drewN ?_ _ | refine blk_drew ?_ | refine blk_alloc ?_ _)); exact BK137.out⟩, ⟨by repeat (first | (with_reducible first | exact HB.out | apply below_alloc | apply pw_below_drewN | apply below_drew1 | refine below_set ?_ GE101.out | refine below_set ?_ GE137.out) | exact HB.out)⟩⟩
          · replace c50 := Bool.eq_false_iff.mpr c50
            subst c50
            have H1 : (laws_FnExactVectorOf.j0 k l1 l2 t121 t124 t138 t141 t144 t147 true a0_0 a0_1 a0_2 l0_3 l0_4 l0_5 t125 t126 t127 t128 t131 t134) = some r := by rw [if_neg (show ¬ (false = true) by decide)] at H; exact H
            clear H
            have H := H1
            clear H1
            have H' := Aside0.mk H
            clear H
            obtain ⟨Ao53, co53, eo53⟩ := Kd.R_slice HO146.out
            subst eo53
            obtain ⟨Ao54, co54, eo54⟩ := Kd.R_slice HO123.out
            subst eo54
            go_wp2_with (first | ((with_reducible refine gate_callee (f := 18) rfl ?_); refine goesL_ (some 56) rfl rfl Try.func18 (by kernel_rfl) rfl #[.slice Ao53 t144.length co53, .slice Ao54 t121.length co54] rfl qz1_ ?_; (with_reducible refine (laws_eqIntS.calls k _ _ t144 _ _ t121 false _ ?side1 ?side2 ?side3 ?side4 A49.out).mono ?_); (case side1 => repeat (first | exact (Kd.R_reads' HO146.out).2.2 | (with_reducible refine Kd.C_alloc ?_ _) | (with_reducible refine Kd.C_drewN ?_ _) | (with_reducible refine Kd.C_drew ?_))); (case side2 => exact (Kd.R_reads' HO146.out).2.1); (case side3 => repeat (first | exact (Kd.R_reads' HO123.out).2.2 | (with_reducible refine Kd.C_alloc ?_ _) | (with_reducible refine Kd.C_drewN ?_ _) | (with_reducible refine Kd.C_drew ?_))); (case side4 => exact (Kd.R_reads' HO123.out).2.1); rintro e w' ⟨rfl, ⟨nd, rfl⟩⟩; refine ⟨_, rfl, ?_⟩))
            go_meet
            case rel => exact ⟨_, (true), qz7_, H', ⟨by first | omega | exact Nat.le_refl _⟩, ⟨by (with_reducible repeat (first | apply Kd.R_alloc | apply Kd.R_drewN | apply Kd.R_drew)); exact Kd.R_mono HO123.out (fun _ hk => ⟨hk.1.1.2, ⟨hk.1.2, hk.2⟩⟩)⟩, ⟨by (with_reducible repeat (first | apply Kd.R_alloc | apply Kd.R_drewN | apply Kd.R_drew)); exact Kd.R_mono HO140.out (fun _ hk => ⟨hk.1.1.2, ⟨hk.1.2, hk.2⟩⟩)⟩, ⟨by (with_reducible repeat (first | apply Kd.R_alloc | apply Kd.R_drewN | apply Kd.R_drew)); exact Kd.R_mono HO143.out (fun _ hk => ⟨hk.1.1.2, ⟨hk.1.2, hk.2⟩⟩)⟩, ⟨by (with_reducible repeat (first | apply Kd.R_alloc | apply Kd.R_drewN | apply Kd.R_drew)); exact Kd.R_mono HO146.out (fun _ hk => ⟨hk.1.1.2, ⟨hk.1.2, hk.2⟩⟩)⟩, ⟨by (with_reducible repeat (first | apply Kd.R_alloc | apply Kd.R_drewN | apply Kd.R_drew)); exact Kd.R_mono HO130.out (fun _ hk => ⟨hk.1.1.1.1, hk.1.1.1.2⟩)⟩, ⟨by (with_reducible repeat (first | apply Kd.R_alloc | apply Kd.R_drewN | apply Kd.R_drew)); exact Kd.R_mono HO133.out (fun _ hk => ⟨hk.1.1.1.1, hk.1.1.1.2⟩)⟩, ⟨by (with_reducible repeat (first | apply Kd.R_alloc | apply Kd.R_drewN | apply Kd.R_drew)); exact Kd.R_mono HO136.out (fun _ hk => ⟨hk.1.1.1.1, hk.1.1.1.2⟩)⟩, ⟨by (with_reducible repeat (first | refine blk_drewN ?_ _ | refine blk_drew ?_ | refine blk_alloc ?_ _)); exact BK101.out⟩, ⟨by (with_reducible repeat (first | refine blk_drewN ?_ _ | refine blk_drew ?_ | refine blk_alloc ?_ _)); exact BK137.out⟩, ⟨by repeat (first | (with_reducible first | exact HB.out | apply below_alloc | apply pw_below_drewN | apply below_drew1 | refine below_set ?_ GE101.out | refine below_set ?_ GE137.out) | exact HB.out)⟩⟩
        case rest =>
          clear HC21
          try clear c1
          try clear c2
          try clear p2
          try clear c3
          try clear c4
          try clear c4b0
          try clear c4b1
          try clear c5
          try clear c6
          try clear c6b0
          try clear c6b1
          try clear c9
          try clear c9b0
          try clear c10
          try clear c12
          try clear c15
          try clear c16
          try clear c17
          try clear c18
          try clear c38
          try clear c50
          try clear hcz11_0
          try clear hcz11_1
          try clear hcz11_2
          try clear hcz11_3
          try clear hcz11_4
          try clear hcz11_5
          try clear hcz23_0
          try clear hcz23_1
          try clear hcz23_2
          try clear hcz23_3
          try clear hcz23_4
          try clear hcz23_5
          try clear hcz25_0
          try clear hcz25_1
          try clear hcz25_2
          try clear hcz25_3
          try clear hcz25_4
          try clear hcz25_5
          try clear hcz35_0
          try clear hcz35_1
          try clear hcz35_2
          try clear hcz35_3
          try clear hcz35_4
          try clear hcz35_5
          try clear hcz39_0
          try clear hcz39_1
          try clear hcz39_2
          try clear hcz39_3
          try clear hcz39_4
          try clear hcz39_5
          try clear hcz45_0
          try clear hcz45_1
          try clear hcz45_2
          try clear hcz45_3
          try clear hcz45_4
          try clear hcz45_5
          try clear hfz11_0
          try clear hfz11_1
          try clear hfz11_2
          try clear hfz11_3
          try clear hfz11_4
          try clear hfz11_5
          try clear hfz23_0
          try clear hfz23_1
          try clear hfz23_2
          try clear hfz23_3
          try clear hfz23_4
          try clear hfz23_5
          try clear hfz25_0
          try clear hfz25_1
          try clear hfz25_2
          try clear hfz25_3
          try clear hfz25_4
          try clear hfz25_5
          try clear hfz35_0
          try clear hfz35_1
          try clear hfz35_2
          try clear hfz35_3
          try clear hfz35_4
          try clear hfz35_5
          try clear hfz39_0
          try clear hfz39_1
          try clear hfz39_2
          try clear hfz39_3
          try clear hfz39_4
          try clear hfz39_5
          try clear hfz45_0
          try clear hfz45_1
          try clear hfz45_2
          try clear hfz45_3
          try clear hfz45_4
          try clear hfz45_5
          obtain ⟨kq, x62_20, rfl, HA, HJ20, HO_8, HO_11, HO_12, HO_13, HO_138003, HO_138004, HO_138005, BK101, BK137, HB⟩ := hcut
          cases kq with
          | zero => exact absurd HA.out (by simp [laws_FnExactVectorOf.j0])
          | succ kj20 =>
            have H := HA.out
            clear HA
            simp only [laws_FnExactVectorOf.j0] at H
            by_cases c55 : x62_20 = true
            · subst c55
              have H1 : (some false) = some r := by rw [if_pos rfl] at H; exact H
              clear H
              have H := H1
              clear H1
              exact absurd ((Option.some.inj H).trans hr_) (by decide)
            · replace c55 := Bool.eq_false_iff.mpr c55
              subst c55
              have H1 : ((laws_toSystem.f kj20 a0_0 a0_1 a0_2 l0_3 l0_4 l0_5).bind fun bt149 => ((laws_eqSystem.f kj20 t125 t126 t127 t128 t131 t134 bt149.1 bt149.2.1 bt149.2.2.1 bt149.2.2.2.1 bt149.2.2.2.2.1 bt149.2.2.2.2.2).bind fun t161 => (if t161 = true then ((laws_toIntS.f kj20 l1).bind fun t162 => ((laws_eqIntS.f kj20 t138 t162).bind fun t165 => (if t165 = true then ((laws_toIntS.f kj20 l2).bind fun t166 => ((laws_eqIntS.f kj20 t141 t166).bind fun t169 => (if t169 = true then ((laws_markSystem.f kj20 t125 t126 t127 t128 t131 t134 1).bind fun bt170 => ((laws_markIntS.f kj20 t138 bt170.1).bind fun bt174 => ((laws_markIntS.f kj20 t141 bt174.1).bind fun bt176 => (if bt176.1 < 0 then (laws_FnExactVectorOf.j1 kj20 l1 l2 t121 t124 t144 true a0_0 a0_1 a0_2 l0_3 l0_4 l0_5) else ((laws_eqIntS.f kj20 t144 t121).bind fun t178 => (if t178 = true then (laws_FnExactVectorOf.j1 kj20 l1 l2 t121 t124 t144 (t147 != t124) a0_0 a0_1 a0_2 l0_3 l0_4 l0_5) else (laws_FnExactVectorOf.j1 kj20 l1 l2 t121 t124 t144 true a0_0 a0_1 a0_2 l0_3 l0_4 l0_5))))))) else (some false)))) else (some false)))) else (some false)))) = some r := by rw [if_neg (show ¬ (false = true) by decide)] at H; exact H
              clear H
              have H := H1
              clear H1
              replace H := Option.bind_eq_some_iff.mp H
              obtain ⟨⟨t149, t150, t151, t152, t155, t158⟩, A560, H⟩ := H
              replace H : ((laws_eqSystem.f kj20 t125 t126 t127 t128 t131 t134 t149 t150 t151 t152 t155 t158).bind fun t161 => (if t161 = true then ((laws_toIntS.f kj20 l1).bind fun t162 => ((laws_eqIntS.f kj20 t138 t162).bind fun t165 => (if t165 = true then ((laws_toIntS.f kj20 l2).bind fun t166 => ((laws_eqIntS.f kj20 t141 t166).bind fun t169 => (if t169 = true then ((laws_markSystem.f kj20 t125 t126 t127 t128 t131 t134 1).bind fun bt170 => ((laws_markIntS.f kj20 t138 bt170.1).bind fun bt174 => ((laws_markIntS.f kj20 t141 bt174.1).bind fun bt176 => (if bt176.1 < 0 then (laws_FnExactVectorOf.j1 kj20 l1 l2 t121 t124 t144 true a0_0 a0_1 a0_2 l0_3 l0_4 l0_5) else ((laws_eqIntS.f kj20 t144 t121).bind fun t178 => (if t178 = true then (laws_FnExactVectorOf.j1 kj20 l1 l2 t121 t124 t144 (t147 != t124) a0_0 a0_1 a0_2 l0_3 l0_4 l0_5) else (laws_FnExactVectorOf.j1 kj20 l1 l2 t121 t124 t144 true a0_0 a0_1 a0_2 l0_3 l0_4 l0_5))))))) else (some false)))) else (some false)))) else (some false))) = some r := H
              have A56 := Aside0.mk A560
              clear A560
              replace H := Option.bind_eq_some_iff.mp H
              obtain ⟨t161, A570, H⟩ := H
              replace H : (if t161 = true then ((laws_toIntS.f kj20 l1).bind fun t162 => ((laws_eqIntS.f kj20 t138 t162).bind fun t165 => (if t165 = true then ((laws_toIntS.f kj20 l2).bind fun t166 => ((laws_eqIntS.f kj20 t141 t166).bind fun t169 => (if t169 = true then ((laws_markSystem.f kj20 t125 t126 t127 t128 t131 t134 1).bind fun bt170 => ((laws_markIntS.f kj20 t138 bt170.1).bind fun bt174 => ((laws_markIntS.f kj20 t141 bt174.1).bind fun bt176 => (if bt176.1 < 0 then (laws_FnExactVectorOf.j1 kj20 l1 l2 t121 t124 t144 true a0_0 a0_1 a0_2 l0_3 l0_4 l0_5) else ((laws_eqIntS.f kj20 t144 t121).bind fun t178 => (if t178 = true then (laws_FnExactVectorOf.j1 kj20 l1 l2 t121 t124 t144 (t147 != t124) a0_0 a0_1 a0_2 l0_3 l0_4 l0_5) else (laws_FnExactVectorOf.j1 kj20 l1 l2 t121 t124 t144 true a0_0 a0_1 a0_2 l0_3 l0_4 l0_5))))))) else (some false)))) else (some false)))) else (some false)) = some r := H
              have A57 := Aside0.mk A570
              clear A570
              by_cases c58 : t161 = true
              · subst c58
                have H1 : ((laws_toIntS.f kj20 l1).bind fun t162 => ((laws_eqIntS.f kj20 t138 t162).bind fun t165 => (if t165 = true then ((laws_toIntS.f kj20 l2).bind fun t166 => ((laws_eqIntS.f kj20 t141 t166).bind fun t169 => (if t169 = true then ((laws_markSystem.f kj20 t125 t126 t127 t128 t131 t134 1).bind fun bt170 => ((laws_markIntS.f kj20 t138 bt170.1).bind fun bt174 => ((laws_markIntS.f kj20 t141 bt174.1).bind fun bt176 => (if bt176.1 < 0 then (laws_FnExactVectorOf.j1 kj20 l1 l2 t121 t124 t144 true a0_0 a0_1 a0_2 l0_3 l0_4 l0_5) else ((laws_eqIntS.f kj20 t144 t121).bind fun t178 => (if t178 = true then (laws_FnExactVectorOf.j1 kj20 l1 l2 t121 t124 t144 (t147 != t124) a0_0 a0_1 a0_2 l0_3 l0_4 l0_5) else (laws_FnExactVectorOf.j1 kj20 l1 l2 t121 t124 t144 true a0_0 a0_1 a0_2 l0_3 l0_4 l0_5))))))) else (some false)))) else (some false)))) = some r := by rw [if_pos rfl] at H; exact H
                clear H
                have H := H1
                clear H1
                replace H := Option.bind_eq_some_iff.mp H
                obtain ⟨t162, A590, H⟩ := H
                replace H : ((laws_eqIntS.f kj20 t138 t162).bind fun t165 => (if t165 = true then ((laws_toIntS.f kj20 l2).bind fun t166 => ((laws_eqIntS.f kj20 t141 t166).bind fun t169 => (if t169 = true then ((laws_markSystem.f kj20 t125 t126 t127 t128 t131 t134 1).bind fun bt170 => ((laws_markIntS.f kj20 t138 bt170.1).bind fun bt174 => ((laws_markIntS.f kj20 t141 bt174.1).bind fun bt176 => (if bt176.1 < 0 then (laws_FnExactVectorOf.j1 kj20 l1 l2 t121 t124 t144 true a0_0 a0_1 a0_2 l0_3 l0_4 l0_5) else ((laws_eqIntS.f kj20 t144 t121).bind fun t178 => (if t178 = true then (laws_FnExactVectorOf.j1 kj20 l1 l2 t121 t124 t144 (t147 != t124) a0_0 a0_1 a0_2 l0_3 l0_4 l0_5) else (laws_FnExactVectorOf.j1 kj20 l1 l2 t121 t124 t144 true a0_0 a0_1 a0_2 l0_3 l0_4 l0_5))))))) else (some false)))) else (some false))) = some r := H
                have A59 := Aside0.mk A590
                clear A590
                replace H := Option.bind_eq_some_iff.mp H
                obtain ⟨t165, A600, H⟩ := H
                replace H : (if t165 = true then ((laws_toIntS.f kj20 l2).bind fun t166 => ((laws_eqIntS.f kj20 t141 t166).bind fun t169 => (if t169 = true then ((laws_markSystem.f kj20 t125 t126 t127 t128 t131 t134 1).bind fun bt170 => ((laws_markIntS.f kj20 t138 bt170.1).bind fun bt174 => ((laws_markIntS.f kj20 t141 bt174.1).bind fun bt176 => (if bt176.1 < 0 then (laws_FnExactVectorOf.j1 kj20 l1 l2 t121 t124 t144 true a0_0 a0_1 a0_2 l0_3 l0_4 l0_5) else ((laws_eqIntS.f kj20 t144 t121).bind fun t178 => (if t178 = true then (laws_FnExactVectorOf.j1 kj20 l1 l2 t121 t124 t144 (t147 != t124) a0_0 a0_1 a0_2 l0_3 l0_4 l0_5) else (laws_FnExactVectorOf.j1 kj20 l1 l2 t121 t124 t144 true a0_0 a0_1 a0_2 l0_3 l0_4 l0_5))))))) else (some false)))) else (some false)) = some r := H
                have A60 := Aside0.mk A600
                clear A600
                by_cases c61 : t165 = true
                · subst c61
                  have H1 : ((laws_toIntS.f kj20 l2).bind fun t166 => ((laws_eqIntS.f kj20 t141 t166).bind fun t169 => (if t169 = true then ((laws_markSystem.f kj20 t125 t126 t127 t128 t131 t134 1).bind fun bt170 => ((laws_markIntS.f kj20 t138 bt170.1).bind fun bt174 => ((laws_markIntS.f kj20 t141 bt174.1).bind fun bt176 => (if bt176.1 < 0 then (laws_FnExactVectorOf.j1 kj20 l1 l2 t121 t124 t144 true a0_0 a0_1 a0_2 l0_3 l0_4 l0_5) else ((laws_eqIntS.f kj20 t144 t121).bind fun t178 => (if t178 = true then (laws_FnExactVectorOf.j1 kj20 l1 l2 t121 t124 t144 (t147 != t124) a0_0 a0_1 a0_2 l0_3 l0_4 l0_5) else (laws_FnExactVectorOf.j1 kj20 l1 l2 t121 t124 t144 true a0_0 a0_1 a0_2 l0_3 l0_4 l0_5))))))) else (some false)))) = some r := by rw [if_pos rfl] at H; exact H
                  clear H
                  have H := H1
                  clear H1
                  replace H := Option.bind_eq_some_iff.mp H
                  obtain ⟨t166, A620, H⟩ := H
                  replace H : ((laws_eqIntS.f kj20 t141 t166).bind fun t169 => (if t169 = true then ((laws_markSystem.f kj20 t125 t126 t127 t128 t131 t134 1).bind fun bt170 => ((laws_markIntS.f kj20 t138 bt170.1).bind fun bt174 => ((laws_markIntS.f kj20 t141 bt174.1).bind fun bt176 => (if bt176.1 < 0 then (laws_FnExactVectorOf.j1 kj20 l1 l2 t121 t124 t144 true a0_0 a0_1 a0_2 l0_3 l0_4 l0_5) else ((laws_eqIntS.f kj20 t144 t121).bind fun t178 => (if t178 = true then (laws_FnExactVectorOf.j1 kj20 l1 l2 t121 t124 t144 (t147 != t124) a0_0 a0_1 a0_2 l0_3 l0_4 l0_5) else (laws_FnExactVectorOf.j1 kj20 l1 l2 t121 t124 t144 true a0_0 a0_1 a0_2 l0_3 l0_4 l0_5))))))) else (some false))) = some r := H
                  have A62 := Aside0.mk A620
                  clear A620
                  replace H := Option.bind_eq_some_iff.mp H
                  obtain ⟨t169, A630, H⟩ := H
                  replace H : (if t169 = true then ((laws_markSystem.f kj20 t125 t126 t127 t128 t131 t134 1).bind fun bt170 => ((laws_markIntS.f kj20 t138 bt170.1).bind fun bt174 => ((laws_markIntS.f kj20 t141 bt174.1).bind fun bt176 => (if bt176.1 < 0 then (laws_FnExactVectorOf.j1 kj20 l1 l2 t121 t124 t144 true a0_0 a0_1 a0_2 l0_3 l0_4 l0_5) else ((laws_eqIntS.f kj20 t144 t121).bind fun t178 => (if t178 = true then (laws_FnExactVectorOf.j1 kj20 l1 l2 t121 t124 t144 (t147 != t124) a0_0 a0_1 a0_2 l0_3 l0_4 l0_5) else (laws_FnExactVectorOf.j1 kj20 l1 l2 t121 t124 t144 true a0_0 a0_1 a0_2 l0_3 l0_4 l0_5))))))) else (some false)) = some r := H
                  have A63 := Aside0.mk A630
                  clear A630
                  by_cases c64 : t169 = true
                  · subst c64
                    have H1 : ((laws_markSystem.f kj20 t125 t126 t127 t128 t131 t134 1).bind fun bt170 => ((laws_markIntS.f kj20 t138 bt170.1).bind fun bt174 => ((laws_markIntS.f kj20 t141 bt174.1).bind fun bt176 => (if bt176.1 < 0 then (laws_FnExactVectorOf.j1 kj20 l1 l2 t121 t124 t144 true a0_0 a0_1 a0_2 l0_3 l0_4 l0_5) else ((laws_eqIntS.f kj20 t144 t121).bind fun t178 => (if t178 = true then (laws_FnExactVectorOf.j1 kj20 l1 l2 t121 t124 t144 (t147 != t124) a0_0 a0_1 a0_2 l0_3 l0_4 l0_5) else (laws_FnExactVectorOf.j1 kj20 l1 l2 t121 t124 t144 true a0_0 a0_1 a0_2 l0_3 l0_4 l0_5))))))) = some r := by rw [if_pos rfl] at H; exact H
                    clear H
                    have H := H1
                    clear H1
                    replace H := Option.bind_eq_some_iff.mp H
                    obtain ⟨⟨t170, t171, t172, t173⟩, A650, H⟩ := H
                    replace H : ((laws_markIntS.f kj20 t138 t170).bind fun bt174 => ((laws_markIntS.f kj20 t141 bt174.1).bind fun bt176 => (if bt176.1 < 0 then (laws_FnExactVectorOf.j1 kj20 l1 l2 t121 t124 t144 true a0_0 a0_1 a0_2 l0_3 l0_4 l0_5) else ((laws_eqIntS.f kj20 t144 t121).bind fun t178 => (if t178 = true then (laws_FnExactVectorOf.j1 kj20 l1 l2 t121 t124 t144 (t147 != t124) a0_0 a0_1 a0_2 l0_3 l0_4 l0_5) else (laws_FnExactVectorOf.j1 kj20 l1 l2 t121 t124 t144 true a0_0 a0_1 a0_2 l0_3 l0_4 l0_5)))))) = some r := H
                    have A65 := Aside0.mk A650
                    clear A650
                    replace H := Option.bind_eq_some_iff.mp H
                    obtain ⟨⟨t174, t175⟩, A660, H⟩ := H
                    replace H : ((laws_markIntS.f kj20 t141 t174).bind fun bt176 => (if bt176.1 < 0 then (laws_FnExactVectorOf.j1 kj20 l1 l2 t121 t124 t144 true a0_0 a0_1 a0_2 l0_3 l0_4 l0_5) else ((laws_eqIntS.f kj20 t144 t121).bind fun t178 => (if t178 = true then (laws_FnExactVectorOf.j1 kj20 l1 l2 t121 t124 t144 (t147 != t124) a0_0 a0_1 a0_2 l0_3 l0_4 l0_5) else (laws_FnExactVectorOf.j1 kj20 l1 l2 t121 t124 t144 true a0_0 a0_1 a0_2 l0_3 l0_4 l0_5))))) = some r := H
                    have A66 := Aside0.mk A660
                    clear A660
                    replace H := Option.bind_eq_some_iff.mp H
                    obtain ⟨⟨t176, t177⟩, A670, H⟩ := H
                    replace H : (if t176 < 0 then (laws_FnExactVectorOf.j1 kj20 l1 l2 t121 t124 t144 true a0_0 a0_1 a0_2 l0_3 l0_4 l0_5) else ((laws_eqIntS.f kj20 t144 t121).bind fun t178 => (if t178 = true then (laws_FnExactVectorOf.j1 kj20 l1 l2 t121 t124 t144 (t147 != t124) a0_0 a0_1 a0_2 l0_3 l0_4 l0_5) else (laws_FnExactVectorOf.j1 kj20 l1 l2 t121 t124 t144 true a0_0 a0_1 a0_2 l0_3 l0_4 l0_5)))) = some r := H
                    have A67 := Aside0.mk A670
                    clear A670
                    have HC68 := Aside0.mk H
                    clear H
                    try go_wp2
                    have n0_ := Aside0.mk (Kd.R_drew HO_8.out)
                    have n1_ := Aside0.mk (Kd.R_drew HO_11.out)
                    have n2_ := Aside0.mk (Kd.R_drew HO_12.out)
                    have n3_ := Aside0.mk (Kd.R_drew HO_13.out)
                    have n4_ := Aside0.mk (Kd.R_drew HO_138003.out)
                    have n5_ := Aside0.mk (Kd.R_drew HO_138004.out)
                    have n6_ := Aside0.mk (Kd.R_drew HO_138005.out)
                    have n7_ := Aside0.mk (blk_drew BK101.out)
                    have n8_ := Aside0.mk (blk_drew BK137.out)
                    have n9_ := Aside0.mk (below_drew1 HB.out)
                    clear HO_8
                    clear HO_11
                    clear HO_12
                    clear HO_13
                    clear HO_138003
                    clear HO_138004
                    clear HO_138005
                    clear BK101
                    clear BK137
                    clear HB
                    have HO_8 := n0_
                    have HO_11 := n1_
                    have HO_12 := n2_
                    have HO_13 := n3_
                    have HO_138003 := n4_
                    have HO_138004 := n5_
                    have HO_138005 := n6_
                    have BK101 := n7_
                    have BK137 := n8_
                    have HB := n9_
                    clear n0_ n1_ n2_ n3_ n4_ n5_ n6_ n7_ n8_ n9_
                    refine start_ (n := 5) (S := fun w' => w'.cell? ⟨gb137, 0, none⟩ = some (.int .i64 t125) ∧ w'.cell? ⟨gb137, 1, none⟩ = some (.int .i64 t126) ∧ w'.cell? ⟨gb137, 2, none⟩ = some (.int .i64 t127) ∧ w'.cell? ⟨gb137, 3, none⟩ = some (.slice Ao40 t128.length co40) ∧ w'.cell? ⟨gb137, 4, none⟩ = some (.slice Ao41 t131.length co41) ∧ w'.cell? ⟨gb137, 5, none⟩ = some (.slice Ao42 t134.length co42) ∧ w'.cell? ⟨gb101, 0, none⟩ = some (.int .i64 a0_0) ∧ w'.cell? ⟨gb101, 1, none⟩ = some (.int .i64 a0_1) ∧ w'.cell? ⟨gb101, 2, none⟩ = some (.int .i64 a0_2) ∧ w'.cell? ⟨gb101, 3, none⟩ = some (.slice A0_3 l0_3.length c0_3) ∧ w'.cell? ⟨gb101, 4, none⟩ = some (.slice A0_4 l0_4.length c0_4) ∧ w'.cell? ⟨gb101, 5, none⟩ = some (.slice A0_5 l0_5.length c0_5)) (ds := []) #[false, false, false, false, false] (by kernel_rfl) rfl rfl ⟨(blk_cell BK137.out 0).trans rfl, (blk_cell BK137.out 1).trans rfl, (blk_cell BK137.out 2).trans rfl, (blk_cell BK137.out 3).trans rfl, (blk_cell BK137.out 4).trans rfl, (blk_cell BK137.out 5).trans rfl, (blk_cell BK101.out 0).trans rfl, (blk_cell BK101.out 1).trans rfl, (blk_cell BK101.out 2).trans rfl, (blk_cell BK101.out 3).trans rfl, (blk_cell BK101.out 4).trans rfl, (blk_cell BK101.out 5).trans rfl⟩ (fun hHeld => ?_)
                    generalize wc.drew = w69 at HO_8 HO_11 HO_12 HO_13 HO_138003 HO_138004 HO_138005 BK101 BK137 HB hHeld ⊢
                    refine take_ (i := 0) (N := some 63) (v := ?_) (a' := ?_) #[true, false, false, false, false] rfl rfl (by kernel_rfl) (fun _ _ _ h => h) (Or.inl ⟨by rfl, ?_⟩) hHeld ?_ ?_
                    rotate_left
                    · rintro w' ⟨s0, s1, s2, s3, s4, s5, s6, s7, s8, s9, s10, s11⟩
                      go_simp
                      with_reducible rfl
                    rotate_left
                    · simp only [Act.put, List.setIfInBounds_toArray, List.set_cons_zero, List.set_cons_succ, i64_w, i32_w]
                      rfl
                    refine take_ (i := 1) (N := some 64) (v := ?_) (a' := ?_) #[true, true, false, false, false] rfl rfl (by kernel_rfl) (fun _ _ _ h => h) (Or.inl ⟨by rfl, ?_⟩) hHeld ?_ ?_
                    rotate_left
                    · rintro w' ⟨s0, s1, s2, s3, s4, s5, s6, s7, s8, s9, s10, s11⟩
                      go_simp
                      with_reducible rfl
                    rotate_left
                    · simp only [Act.put, List.setIfInBounds_toArray, List.set_cons_zero, List.set_cons_succ, i64_w, i32_w]
                      rfl
                    refine one_ (i := 2) (N := some 65) #[true, true, true, false, false] rfl rfl (by kernel_rfl) (by decide) (fun K hK => ?_)
                    refine goes_ Try.func12 (by kernel_rfl) rfl #[.agg #[.int .i64 a0_0, .int .i64 a0_1, .int .i64 a0_2, .slice A0_3 l0_3.length c0_3, .slice A0_4 l0_4.length c0_4, .slice A0_5 l0_5.length c0_5]] (by rfl) rfl rfl qz1_ ?_
                    with_reducible refine (laws_toSystem.calls kj20 a0_0 a0_1 a0_2 _ _ l0_3 _ _ l0_4 _ _ l0_5 t149 t150 t151 t152 t155 t158 _ ?side1 ?side2 ?side3 ?side4 ?side5 ?side6 A56.out).mono ?_
                    (case side1 => repeat (first | exact (Kd.C_below HR0_3.out HB.out) | (with_reducible refine Kd.C_alloc ?_ _) | (with_reducible refine Kd.C_drewN ?_ _) | (with_reducible refine Kd.C_drew ?_)))
                    (case side2 => exact HC0_3.out)
                    (case side3 => repeat (first | exact (Kd.C_below HR0_4.out HB.out) | (with_reducible refine Kd.C_alloc ?_ _) | (with_reducible refine Kd.C_drewN ?_ _) | (with_reducible refine Kd.C_drew ?_)))
                    (case side4 => exact HC0_4.out)
                    (case side5 => repeat (first | exact (Kd.C_below HR0_5.out HB.out) | (with_reducible refine Kd.C_alloc ?_ _) | (with_reducible refine Kd.C_drewN ?_ _) | (with_reducible refine Kd.C_drew ?_)))
                    (case side6 => exact HC0_5.out)
                    rintro e w70 ⟨v153, v156, v159, rfl, ho0, ho1, ho2, hb⟩
                    refine ⟨_, rfl, ?_⟩
                    have n0_ := Aside0.mk (Kd.R_below qz19_ hb)
                    have n1_ := Aside0.mk (Kd.R_below qz20_ hb)
                    have n2_ := Aside0.mk (Kd.R_below qz21_ hb)
                    have n3_ := Aside0.mk (Kd.R_below qz22_ hb)
                    have n4_ := Aside0.mk (Kd.R_mono (Kd.R_told (Kd.R_told (Kd.R_told (Kd.R_old qz23_ hb) (Kd.R_base ho0)) (Kd.R_base ho1)) (Kd.R_base ho2)) (fun _ h_ => h_.1))
                    have n5_ := Aside0.mk (Kd.R_mono (Kd.R_told (Kd.R_told (Kd.R_told (Kd.R_old qz24_ hb) (Kd.R_base ho0)) (Kd.R_base ho1)) (Kd.R_base ho2)) (fun _ h_ => h_.1))
                    have n6_ := Aside0.mk (Kd.R_mono (Kd.R_told (Kd.R_told (Kd.R_told (Kd.R_old qz25_ hb) (Kd.R_base ho0)) (Kd.R_base ho1)) (Kd.R_base ho2)) (fun _ h_ => h_.1))
                    have n7_ := Aside0.mk (Kd.R_lower (Kd.R_new' (Kd.R_new' (Kd.R_new' ho0 (Kd.R_lt qz23_)) (Kd.R_lt qz24_)) (Kd.R_lt qz25_)) (below_size qz17_))
                    have n8_ := Aside0.mk (Kd.R_lower (Kd.R_new' (Kd.R_new' (Kd.R_new' ho1 (Kd.R_lt qz23_)) (Kd.R_lt qz24_)) (Kd.R_lt qz25_)) (below_size qz17_))
                    have n9_ := Aside0.mk (Kd.R_lower (Kd.R_new' (Kd.R_new' (Kd.R_new' ho2 (Kd.R_lt qz23_)) (Kd.R_lt qz24_)) (Kd.R_lt qz25_)) (below_size qz17_))
                    have n10_ := Aside0.mk (blk_below (g := gb101) (o := .cells #[.int .i64 a0_0, .int .i64 a0_1, .int .i64 a0_2, .slice A0_3 l0_3.length c0_3, .slice A0_4 l0_4.length c0_4, .slice A0_5 l0_5.length c0_5] 24 (0, 0)) qz3_ hb)
                    have n11_ := Aside0.mk (blk_below (g := gb137) (o := .cells #[.int .i64 t125, .int .i64 t126, .int .i64 t127, .slice Ao40 t128.length co40, .slice Ao41 t131.length co41, .slice Ao42 t134.length co42] 29 (0, 0)) qz18_ hb)
                    have n12_ := Aside0.mk (below_step qz17_ hb)
                    clear HO_8
                    clear HO_11
                    clear HO_12
                    clear HO_13
                    clear HO_138003
                    clear HO_138004
                    clear HO_138005
                    clear BK101
                    clear BK137
                    clear HB
                    have HO_8 := n0_
                    have HO_11 := n1_
                    have HO_12 := n2_
                    have HO_13 := n3_
                    have HO_138003 := n4_
                    have HO_138004 := n5_
                    have HO_138005 := n6_
                    have HO154 := n7_
                    have HO157 := n8_
                    have HO160 := n9_
                    have BK101 := n10_
                    have BK137 := n11_
                    have HB := n12_
                    clear n0_ n1_ n2_ n3_ n4_ n5_ n6_ n7_ n8_ n9_ n10_ n11_ n12_
                    (try clear hb)
                    (try clear hb2)
                    (try clear hk)
                    (try clear hi)
                    (try clear ho0)
                    (try clear ho1)
                    (try clear ho2)
                    obtain ⟨Ao71, co71, eo71⟩ := Kd.R_slice HO154.out
                    (first | subst eo71 | (injection eo71 with f1_ f2_ f3_; have f4_ := f1_.symm; have f5_ := f3_.symm; clear f1_ f2_ f3_; subst f4_; subst f5_))
                    obtain ⟨Ao72, co72, eo72⟩ := Kd.R_slice HO157.out
                    (first | subst eo72 | (injection eo72 with f1_ f2_ f3_; have f4_ := f1_.symm; have f5_ := f3_.symm; clear f1_ f2_ f3_; subst f4_; subst f5_))
                    obtain ⟨Ao73, co73, eo73⟩ := Kd.R_slice HO160.out
                    (first | subst eo73 | (injection eo73 with f1_ f2_ f3_; have f4_ := f1_.symm; have f5_ := f3_.symm; clear f1_ f2_ f3_; subst f4_; subst f5_))
                    refine hK.out _ _ ⟨(blk_cell BK137.out 0).trans rfl, (blk_cell BK137.out 1).trans rfl, (blk_cell BK137.out 2).trans rfl, (blk_cell BK137.out 3).trans rfl, (blk_cell BK137.out 4).trans rfl, (blk_cell BK137.out 5).trans rfl, (blk_cell BK101.out 0).trans rfl, (blk_cell BK101.out 1).trans rfl, (blk_cell BK101.out 2).trans rfl, (blk_cell BK101.out 3).trans rfl, (blk_cell BK101.out 4).trans rfl, (blk_cell BK101.out 5).trans rfl⟩ (fun hHeld => ?_)
                    clear hK K
                    refine norm_ (a' := ?_) ?_ ?_
                    rotate_left
                    · show Act.put _ (some 65) _ = _
                      simp only [Act.put, List.setIfInBounds_toArray, List.set_cons_zero, List.set_cons_succ, i64_w, i32_w]
                      rfl
                    refine one_ (i := 3) (N := some 66) #[true, true, true, true, false] rfl rfl (by kernel_rfl) (by decide) (fun K hK => ?_)
                    refine goes_ Try.func14 (by kernel_rfl) rfl #[.agg #[.int .i64 t125, .int .i64 t126, .int .i64 t127, .slice Ao40 t128.length co40, .slice Ao41 t131.length co41, .slice Ao42 t134.length co42], .agg #[.int .i64 t149, .int .i64 t150, .int .i64 t151, .slice Ao71 t152.length co71, .slice Ao72 t155.length co72, .slice Ao73 t158.length co73]] (by rfl) rfl rfl qz1_ ?_
                    with_reducible refine (laws_eqSystem.calls kj20 t125 t126 t127 _ _ t128 _ _ t131 _ _ t134 t149 t150 t151 _ _ t152 _ _ t155 _ _ t158 true _ ?side1 ?side2 ?side3 ?side4 ?side5 ?side6 ?side7 ?side8 ?side9 ?side10 ?side11 ?side12 A57.out).mono ?_
                    (case side1 => repeat (first | exact (Kd.R_reads' HO_138003.out).2.2 | (with_reducible refine Kd.C_alloc ?_ _) | (with_reducible refine Kd.C_drewN ?_ _) | (with_reducible refine Kd.C_drew ?_)))
                    (case side2 => exact (Kd.R_reads' HO_138003.out).2.1)
                    (case side3 => repeat (first | exact (Kd.R_reads' HO_138004.out).2.2 | (with_reducible refine Kd.C_alloc ?_ _) | (with_reducible refine Kd.C_drewN ?_ _) | (with_reducible refine Kd.C_drew ?_)))
                    (case side4 => exact (Kd.R_reads' HO_138004.out).2.1)
                    (case side5 => repeat (first | exact (Kd.R_reads' HO_138005.out).2.2 | (with_reducible refine Kd.C_alloc ?_ _) | (with_reducible refine Kd.C_drewN ?_ _) | (with_reducible refine Kd.C_drew ?_)))
                    (case side6 => exact (Kd.R_reads' HO_138005.out).2.1)
                    (case side7 => repeat (first | exact (Kd.R_reads' HO154.out).2.2 | (with_reducible refine Kd.C_alloc ?_ _) | (with_reducible refine Kd.C_drewN ?_ _) | (with_reducible refine Kd.C_drew ?_)))
                    (case side8 => exact (Kd.R_reads' HO154.out).2.1)
                    (case side9 => repeat (first | exact (Kd.R_reads' HO157.out).2.2 | (with_reducible refine Kd.C_alloc ?_ _) | (with_reducible refine Kd.C_drewN ?_ _) | (with_reducible refine Kd.C_drew ?_)))
                    (case side10 => exact (Kd.R_reads' HO157.out).2.1)
                    (case side11 => repeat (first | exact (Kd.R_reads' HO160.out).2.2 | (with_reducible refine Kd.C_alloc ?_ _) | (with_reducible refine Kd.C_drewN ?_ _) | (with_reducible refine Kd.C_drew ?_)))
                    (case side12 => exact (Kd.R_reads' HO160.out).2.1)
                    rintro e w74 ⟨rfl, hb⟩
                    refine ⟨_, rfl, ?_⟩
                    have n0_ := Aside0.mk (Kd.R_below qz19_ hb)
                    have n1_ := Aside0.mk (Kd.R_below qz20_ hb)
                    have n2_ := Aside0.mk (Kd.R_below qz21_ hb)
                    have n3_ := Aside0.mk (Kd.R_below qz22_ hb)
                    have n4_ := Aside0.mk (Kd.R_below qz23_ hb)
                    have n5_ := Aside0.mk (Kd.R_below qz24_ hb)
                    have n6_ := Aside0.mk (Kd.R_below qz25_ hb)
                    have n7_ := Aside0.mk (Kd.R_below (by (with_reducible repeat (first | apply Kd.R_alloc | apply Kd.R_drewN | apply Kd.R_drew)); exact HO154.out) hb)
                    have n8_ := Aside0.mk (Kd.R_below (by (with_reducible repeat (first | apply Kd.R_alloc | apply Kd.R_drewN | apply Kd.R_drew)); exact HO157.out) hb)
                    have n9_ := Aside0.mk (Kd.R_below (by (with_reducible repeat (first | apply Kd.R_alloc | apply Kd.R_drewN | apply Kd.R_drew)); exact HO160.out) hb)
                    have n10_ := Aside0.mk (blk_below (g := gb101) (o := .cells #[.int .i64 a0_0, .int .i64 a0_1, .int .i64 a0_2, .slice A0_3 l0_3.length c0_3, .slice A0_4 l0_4.length c0_4, .slice A0_5 l0_5.length c0_5] 24 (0, 0)) qz3_ hb)
                    have n11_ := Aside0.mk (blk_below (g := gb137) (o := .cells #[.int .i64 t125, .int .i64 t126, .int .i64 t127, .slice Ao40 t128.length co40, .slice Ao41 t131.length co41, .slice Ao42 t134.length co42] 29 (0, 0)) qz18_ hb)
                    have n12_ := Aside0.mk (below_step qz17_ hb)
                    clear HO_8
                    clear HO_11
                    clear HO_12
                    clear HO_13
                    clear HO_138003
                    clear HO_138004
                    clear HO_138005
                    clear HO154
                    clear HO157
                    clear HO160
                    clear BK101
                    clear BK137
                    clear HB
                    have HO_8 := n0_
                    have HO_11 := n1_
                    have HO_12 := n2_
                    have HO_13 := n3_
                    have HO_138003 := n4_
                    have HO_138004 := n5_
                    have HO_138005 := n6_
                    have HO154 := n7_
                    have HO157 := n8_
                    have HO160 := n9_
                    have BK101 := n10_
                    have BK137 := n11_
                    have HB := n12_
                    clear n0_ n1_ n2_ n3_ n4_ n5_ n6_ n7_ n8_ n9_ n10_ n11_ n12_
                    (try clear hb)
                    (try clear hb2)
                    (try clear hk)
                    (try clear hi)
                    refine hK.out _ _ ⟨(blk_cell BK137.out 0).trans rfl, (blk_cell BK137.out 1).trans rfl, (blk_cell BK137.out 2).trans rfl, (blk_cell BK137.out 3).trans rfl, (blk_cell BK137.out 4).trans rfl, (blk_cell BK137.out 5).trans rfl, (blk_cell BK101.out 0).trans rfl, (blk_cell BK101.out 1).trans rfl, (blk_cell BK101.out 2).trans rfl, (blk_cell BK101.out 3).trans rfl, (blk_cell BK101.out 4).trans rfl, (blk_cell BK101.out 5).trans rfl⟩ (fun hHeld => ?_)
                    clear hK K
                    refine norm_ (a' := ?_) ?_ ?_
                    rotate_left
                    · show Act.put _ (some 66) _ = _
                      simp only [Act.put, List.setIfInBounds_toArray, List.set_cons_zero, List.set_cons_succ, i64_w, i32_w]
                      rfl
                    refine pure_ (i := 4) (N := some 67) (v := ?_) (a' := ?_) #[true, true, true, true, true] rfl rfl (by kernel_rfl) (fun _ _ _ h => h) (Or.inl ⟨by rfl, ?_⟩) ?_ ?_
                    rotate_left
                    · intro w'
                      go_simp
                      with_reducible rfl
                    rotate_left
                    · simp only [Act.put, List.setIfInBounds_toArray, List.set_cons_zero, List.set_cons_succ, i64_w, i32_w]
                      rfl
                    refine done_ (by kernel_rfl) ?_
                    go_upto_region 26 with (first | ((with_reducible refine gate_callee (f := 16) rfl ?_); refine goesL_ (some 70) rfl rfl Try.func16 (by kernel_rfl) rfl #[.slice A1 l1.length c1] rfl qz1_ ?_; (with_reducible refine (laws_toIntS.calls kj20 _ _ l1 t162 _ ?side1 ?side2 A59.out).mono ?_); (case side1 => repeat (first | exact (Kd.C_below HR1.out HB.out) | (with_reducible refine Kd.C_alloc ?_ _) | (with_reducible refine Kd.C_drewN ?_ _) | (with_reducible refine Kd.C_drew ?_))); (case side2 => exact HC1.out); rintro e w75 ⟨v163, rfl, ho0, hb⟩; refine ⟨_, rfl, ?_⟩; have n0_ := Aside0.mk (Kd.R_elder' qz19_ (Kd.R_base ho0) hb); have n1_ := Aside0.mk (Kd.R_elder' qz20_ (Kd.R_base ho0) hb); have n2_ := Aside0.mk (Kd.R_elder' qz21_ (Kd.R_base ho0) hb); have n3_ := Aside0.mk (Kd.R_elder' qz22_ (Kd.R_base ho0) hb); have n4_ := Aside0.mk (Kd.R_below qz23_ hb); have n5_ := Aside0.mk (Kd.R_below qz24_ hb); have n6_ := Aside0.mk (Kd.R_below qz25_ hb); have n7_ := Aside0.mk (Kd.R_below (by (with_reducible repeat (first | apply Kd.R_alloc | apply Kd.R_drewN | apply Kd.R_drew)); exact HO154.out) hb); have n8_ := Aside0.mk (Kd.R_below (by (with_reducible repeat (first | apply Kd.R_alloc | apply Kd.R_drewN | apply Kd.R_drew)); exact HO157.out) hb); have n9_ := Aside0.mk (Kd.R_below (by (with_reducible repeat (first | apply Kd.R_alloc | apply Kd.R_drewN | apply Kd.R_drew)); exact HO160.out) hb); have n10_ := Aside0.mk (Kd.R_lower (Kd.R_new' (Kd.R_new' (Kd.R_new' (Kd.R_new' ho0 (Kd.R_lt qz19_)) (Kd.R_lt qz20_)) (Kd.R_lt qz21_)) (Kd.R_lt qz22_)) (below_size qz17_)); have n11_ := Aside0.mk (blk_below (g := gb101) (o := .cells #[.int .i64 a0_0, .int .i64 a0_1, .int .i64 a0_2, .slice A0_3 l0_3.length c0_3, .slice A0_4 l0_4.length c0_4, .slice A0_5 l0_5.length c0_5] 24 (0, 0)) qz3_ hb); have n12_ := Aside0.mk (blk_below (g := gb137) (o := .cells #[.int .i64 t125, .int .i64 t126, .int .i64 t127, .slice Ao40 t128.length co40, .slice Ao41 t131.length co41, .slice Ao42 t134.length co42] 29 (0, 0)) qz18_ hb); have n13_ := Aside0.mk (below_step qz17_ hb); clear HO_8; clear HO_11; clear HO_12; clear HO_13; clear HO_138003; clear HO_138004; clear HO_138005; clear HO154; clear HO157; clear HO160; clear BK101; clear BK137; clear HB; have HO_8 := n0_; have HO_11 := n1_; have HO_12 := n2_; have HO_13 := n3_; have HO_138003 := n4_; have HO_138004 := n5_; have HO_138005 := n6_; have HO154 := n7_; have HO157 := n8_; have HO160 := n9_; have HO164 := n10_; have BK101 := n11_; have BK137 := n12_; have HB := n13_; clear n0_ n1_ n2_ n3_ n4_ n5_ n6_ n7_ n8_ n9_ n10_ n11_ n12_ n13_; (try clear hb); (try clear hb2); (try clear hk); (try clear hi); (try clear ho0); obtain ⟨Ao76, co76, eo76⟩ := Kd.R_slice HO164.out; subst eo76) | ((with_reducible refine gate_callee (f := 18) rfl ?_); refine goesL_ (some 71) rfl rfl Try.func18 (by kernel_rfl) rfl #[.slice Ao46 t138.length co46, .slice Ao76 t162.length co76] rfl qz1_ ?_; (with_reducible refine (laws_eqIntS.calls kj20 _ _ t138 _ _ t162 true _ ?side1 ?side2 ?side3 ?side4 A60.out).mono ?_); (case side1 => repeat (first | exact (Kd.R_reads' HO_11.out).2.2 | (with_reducible refine Kd.C_alloc ?_ _) | (with_reducible refine Kd.C_drewN ?_ _) | (with_reducible refine Kd.C_drew ?_))); (case side2 => exact (Kd.R_reads' HO_11.out).2.1); (case side3 => repeat (first | exact (Kd.R_reads' HO164.out).2.2 | (with_reducible refine Kd.C_alloc ?_ _) | (with_reducible refine Kd.C_drewN ?_ _) | (with_reducible refine Kd.C_drew ?_))); (case side4 => exact (Kd.R_reads' HO164.out).2.1); rintro e w' ⟨rfl, ⟨nd, rfl⟩⟩; refine ⟨_, rfl, ?_⟩) | ((with_reducible refine gate_callee (f := 16) rfl ?_); refine goesL_ (some 75) rfl rfl Try.func16 (by kernel_rfl) rfl #[.slice A2 l2.length c2] rfl qz1_ ?_; (with_reducible refine (laws_toIntS.calls kj20 _ _ l2 t166 _ ?side1 ?side2 A62.out).mono ?_); (case side1 => repeat (first | exact (Kd.C_below HR2.out qz17_) | (with_reducible refine Kd.C_alloc ?_ _) | (with_reducible refine Kd.C_drewN ?_ _) | (with_reducible refine Kd.C_drew ?_))); (case side2 => exact HC2.out); rintro e w77 ⟨v167, rfl, ho0, hb⟩; refine ⟨_, rfl, ?_⟩; have n0_ := Aside0.mk (Kd.R_elder' qz19_ (Kd.R_base ho0) hb); have n1_ := Aside0.mk (Kd.R_elder' qz20_ (Kd.R_base ho0) hb); have n2_ := Aside0.mk (Kd.R_elder' qz21_ (Kd.R_base ho0) hb); have n3_ := Aside0.mk (Kd.R_elder' qz22_ (Kd.R_base ho0) hb); have n4_ := Aside0.mk (Kd.R_below qz23_ hb); have n5_ := Aside0.mk (Kd.R_below qz24_ hb); have n6_ := Aside0.mk (Kd.R_below qz25_ hb); have n7_ := Aside0.mk (Kd.R_below (by (with_reducible repeat (first | apply Kd.R_alloc | apply Kd.R_drewN | apply Kd.R_drew)); exact HO154.out) hb); have n8_ := Aside0.mk (Kd.R_below (by (with_reducible repeat (first | apply Kd.R_alloc | apply Kd.R_drewN | apply Kd.R_drew)); exact HO157.out) hb); have n9_ := Aside0.mk (Kd.R_below (by (with_reducible repeat (first | apply Kd.R_alloc | apply Kd.R_drewN | apply Kd.R_drew)); exact HO160.out) hb); have n10_ := Aside0.mk (Kd.R_elder' (by (with_reducible repeat (first | apply Kd.R_alloc | apply Kd.R_drewN | apply Kd.R_drew)); exact HO164.out) (Kd.R_base ho0) hb); have n11_ := Aside0.mk (Kd.R_lower (Kd.R_new' (Kd.R_new' (Kd.R_new' (Kd.R_new' (Kd.R_new' ho0 (Kd.R_lt qz19_)) (Kd.R_lt qz20_)) (Kd.R_lt qz21_)) (Kd.R_lt qz22_)) (Kd.R_lt (by (with_reducible repeat (first | apply Kd.R_alloc | apply Kd.R_drewN | apply Kd.R_drew)); exact HO164.out))) (below_size qz17_)); have n12_ := Aside0.mk (blk_below (g := gb101) (o := .cells #[.int .i64 a0_0, .int .i64 a0_1, .int .i64 a0_2, .slice A0_3 l0_3.length c0_3, .slice A0_4 l0_4.length c0_4, .slice A0_5 l0_5.length c0_5] 24 (0, 0)) qz3_ hb); have n13_ := Aside0.mk (blk_below (g := gb137) (o := .cells #[.int .i64 t125, .int .i64 t126, .int .i64 t127, .slice Ao40 t128.length co40, .slice Ao41 t131.length co41, .slice Ao42 t134.length co42] 29 (0, 0)) qz18_ hb); have n14_ := Aside0.mk (below_step qz17_ hb); clear HO_8; clear HO_11; clear HO_12; clear HO_13; clear HO_138003; clear HO_138004; clear HO_138005; clear HO154; clear HO157; clear HO160; clear HO164; clear BK101; clear BK137; clear HB; have HO_8 := n0_; have HO_11 := n1_; have HO_12 := n2_; have HO_13 := n3_; have HO_138003 := n4_; have HO_138004 := n5_; have HO_138005 := n6_; have HO154 := n7_; have HO157 := n8_; have HO160 := n9_; have HO164 := n10_; have HO168 := n11_; have BK101 := n12_; have BK137 := n13_; have HB := n14_; clear n0_ n1_ n2_ n3_ n4_ n5_ n6_ n7_ n8_ n9_ n10_ n11_ n12_ n13_ n14_; (try clear hb); (try clear hb2); (try clear hk); (try clear hi); (try clear ho0); obtain ⟨Ao78, co78, eo78⟩ := Kd.R_slice HO168.out; subst eo78) | ((with_reducible refine gate_callee (f := 18) rfl ?_); refine goesL_ (some 76) rfl rfl Try.func18 (by kernel_rfl) rfl #[.slice Ao47 t141.length co47, .slice Ao78 t166.length co78] rfl qz1_ ?_; (with_reducible refine (laws_eqIntS.calls kj20 _ _ t141 _ _ t166 true _ ?side1 ?side2 ?side3 ?side4 A63.out).mono ?_); (case side1 => repeat (first | exact (Kd.R_reads' HO_12.out).2.2 | (with_reducible refine Kd.C_alloc ?_ _) | (with_reducible refine Kd.C_drewN ?_ _) | (with_reducible refine Kd.C_drew ?_))); (case side2 => exact (Kd.R_reads' HO_12.out).2.1); (case side3 => repeat (first | exact (Kd.R_reads' HO168.out).2.2 | (with_reducible refine Kd.C_alloc ?_ _) | (with_reducible refine Kd.C_drewN ?_ _) | (with_reducible refine Kd.C_drew ?_))); (case side4 => exact (Kd.R_reads' HO168.out).2.1); rintro e w' ⟨rfl, ⟨nd, rfl⟩⟩; refine ⟨_, rfl, ?_⟩; have hnb79 := NB137_101.out; have hnc79 := NB101_137.out; have hcz80_0 : w77.cell? ⟨gb137, 0, none⟩ = some (.int .i64 t125) := (blk_cell BK137.out 0).trans rfl; have hcz80_1 : w77.cell? ⟨gb137, 1, none⟩ = some (.int .i64 t126) := (blk_cell BK137.out 1).trans rfl; have hcz80_2 : w77.cell? ⟨gb137, 2, none⟩ = some (.int .i64 t127) := (blk_cell BK137.out 2).trans rfl; have hcz80_3 : w77.cell? ⟨gb137, 3, none⟩ = some (.slice Ao40 t128.length co40) := (blk_cell BK137.out 3).trans rfl; have hcz80_4 : w77.cell? ⟨gb137, 4, none⟩ = some (.slice Ao41 t131.length co41) := (blk_cell BK137.out 4).trans rfl; have hcz80_5 : w77.cell? ⟨gb137, 5, none⟩ = some (.slice Ao42 t134.length co42) := (blk_cell BK137.out 5).trans rfl; have hfz80_0 := blk_frozen BK137.out 0; have hfz80_1 := blk_frozen BK137.out 1; have hfz80_2 := blk_frozen BK137.out 2; have hfz80_3 := blk_frozen BK137.out 3; have hfz80_4 := blk_frozen BK137.out 4; have hfz80_5 := blk_frozen BK137.out 5) | ((with_reducible refine gate_callee (f := 19) rfl ?_); refine goesL_ (some 80) rfl rfl Try.func19 (by kernel_rfl) rfl #[.agg #[.int .i64 t125, .int .i64 t126, .int .i64 t127, .slice Ao40 t128.length co40, .slice Ao41 t131.length co41, .slice Ao42 t134.length co42], .int .i64 1] rfl qz1_ ?_; (with_reducible refine (laws_markSystem.calls kj20 t125 t126 t127 (fun k_ => some k_ = (.slice Ao40 t128.length co40 : Value).ownBlock) (.slice Ao40 t128.length co40) t128 (fun k_ => some k_ = (.slice Ao41 t131.length co41 : Value).ownBlock) (.slice Ao41 t131.length co41) t131 (fun k_ => some k_ = (.slice Ao42 t134.length co42 : Value).ownBlock) (.slice Ao42 t134.length co42) t134 1 t170 t171 t172 t173 w _ ?side1 ?side2 ?side3 ?side4 ?side5 ?side6 ?side7 ?side8 ?side9 ?side10 A65.out).mono ?_); (case side1 => repeat (first | (with_reducible first | exact HB.out | apply below_alloc | apply pw_below_drewN | apply below_drew1 | refine below_set ?_ GE101.out | refine below_set ?_ GE137.out) | exact HB.out)); (case side2 => exact Kd.R_tight rfl HO_138003.out); (case side3 => exact fun k_ e_ => (HO_138003.out.1 k_ e_.symm).1.1.1.1); (case side4 => exact fun k_ e_ => (HO_138003.out.1 k_ e_.symm).1.1.1.2); (case side5 => exact Kd.R_tight rfl HO_138004.out); (case side6 => exact fun k_ e_ => (HO_138004.out.1 k_ e_.symm).1.1.1.1); (case side7 => exact fun k_ e_ => (HO_138004.out.1 k_ e_.symm).1.1.1.2); (case side8 => exact Kd.R_tight rfl HO_138005.out); (case side9 => exact fun k_ e_ => (HO_138005.out.1 k_ e_.symm).1.1.1.1); (case side10 => exact fun k_ e_ => (HO_138005.out.1 k_ e_.symm).1.1.1.2); rintro e w81 ⟨rfl, hy0, hy1, hy2, hb, hkp⟩; refine ⟨_, rfl, ?_⟩; have n0_ := Aside0.mk (Kd.R_mono (ok' := fun k_ => some k_ ≠ (.slice Ao46 t138.length co46 : Value).ownBlock ∧ some k_ ≠ (.slice Ao47 t141.length co47 : Value).ownBlock ∧ some k_ ≠ (v145 : Value).ownBlock ∧ some k_ ≠ (.slice Ao76 t162.length co76 : Value).ownBlock ∧ some k_ ≠ (.slice Ao78 t166.length co78 : Value).ownBlock) (Kd.R_keptB ((Kd.R_apart' (Kd.R_apart' (Kd.R_apart' HO_8.out (Kd.R_typed HO_138003.out) (by decide)) (Kd.R_typed HO_138004.out) (by decide)) (Kd.R_typed HO_138005.out) (by decide))) hkp (fun k_ hk_ hs_ => Or.elim hs_ (fun e_ => (hk_.1.1.2) e_) (fun e_ => Or.elim e_ (fun e_ => (hk_.1.2) e_) (fun e_ => (hk_.2) e_)))) (fun k_ hk_ => ⟨hk_.1.1.1.1.1.1.1, hk_.1.1.1.1.1.1.2.1, hk_.1.1.1.1.1.1.2.2, hk_.1.1.1.1.1.2, hk_.1.1.1.1.2⟩)); have n1_ := Aside0.mk (Kd.R_mono (ok' := fun k_ => some k_ ≠ (v122 : Value).ownBlock ∧ some k_ ≠ (.slice Ao47 t141.length co47 : Value).ownBlock ∧ some k_ ≠ (v145 : Value).ownBlock ∧ some k_ ≠ (.slice Ao76 t162.length co76 : Value).ownBlock ∧ some k_ ≠ (.slice Ao78 t166.length co78 : Value).ownBlock) (Kd.R_keptB ((Kd.R_apart' (Kd.R_apart' (Kd.R_apart' HO_11.out (Kd.R_typed HO_138003.out) (by decide)) (Kd.R_typed HO_138004.out) (by decide)) (Kd.R_typed HO_138005.out) (by decide))) hkp (fun k_ hk_ hs_ => Or.elim hs_ (fun e_ => (hk_.1.1.2) e_) (fun e_ => Or.elim e_ (fun e_ => (hk_.1.2) e_) (fun e_ => (hk_.2) e_)))) (fun k_ hk_ => ⟨hk_.1.1.1.1.1.1.1, hk_.1.1.1.1.1.1.2.1, hk_.1.1.1.1.1.1.2.2, hk_.1.1.1.1.1.2, hk_.1.1.1.1.2⟩)); have n2_ := Aside0.mk (Kd.R_mono (ok' := fun k_ => some k_ ≠ (v122 : Value).ownBlock ∧ some k_ ≠ (.slice Ao46 t138.length co46 : Value).ownBlock ∧ some k_ ≠ (v145 : Value).ownBlock ∧ some k_ ≠ (.slice Ao76 t162.length co76 : Value).ownBlock ∧ some k_ ≠ (.slice Ao78 t166.length co78 : Value).ownBlock) (Kd.R_keptB ((Kd.R_apart' (Kd.R_apart' (Kd.R_apart' HO_12.out (Kd.R_typed HO_138003.out) (by decide)) (Kd.R_typed HO_138004.out) (by decide)) (Kd.R_typed HO_138005.out) (by decide))) hkp (fun k_ hk_ hs_ => Or.elim hs_ (fun e_ => (hk_.1.1.2) e_) (fun e_ => Or.elim e_ (fun e_ => (hk_.1.2) e_) (fun e_ => (hk_.2) e_)))) (fun k_ hk_ => ⟨hk_.1.1.1.1.1.1.1, hk_.1.1.1.1.1.1.2.1, hk_.1.1.1.1.1.1.2.2, hk_.1.1.1.1.1.2, hk_.1.1.1.1.2⟩)); have n3_ := Aside0.mk (Kd.R_mono (ok' := fun k_ => some k_ ≠ (v122 : Value).ownBlock ∧ some k_ ≠ (.slice Ao46 t138.length co46 : Value).ownBlock ∧ some k_ ≠ (.slice Ao47 t141.length co47 : Value).ownBlock ∧ some k_ ≠ (.slice Ao76 t162.length co76 : Value).ownBlock ∧ some k_ ≠ (.slice Ao78 t166.length co78 : Value).ownBlock) (Kd.R_keptB ((Kd.R_apart' (Kd.R_apart' (Kd.R_apart' HO_13.out (Kd.R_typed HO_138003.out) (by decide)) (Kd.R_typed HO_138004.out) (by decide)) (Kd.R_typed HO_138005.out) (by decide))) hkp (fun k_ hk_ hs_ => Or.elim hs_ (fun e_ => (hk_.1.1.2) e_) (fun e_ => Or.elim e_ (fun e_ => (hk_.1.2) e_) (fun e_ => (hk_.2) e_)))) (fun k_ hk_ => ⟨hk_.1.1.1.1.1.1.1, hk_.1.1.1.1.1.1.2.1, hk_.1.1.1.1.1.1.2.2, hk_.1.1.1.1.1.2, hk_.1.1.1.1.2⟩)); have n4_ := Aside0.mk (Kd.R_reok rfl hy0 (fun k_ e_ => HO_138003.out.1 k_ e_)); have n5_ := Aside0.mk (Kd.R_reok rfl hy1 (fun k_ e_ => HO_138004.out.1 k_ e_)); have n6_ := Aside0.mk (Kd.R_reok rfl hy2 (fun k_ e_ => HO_138005.out.1 k_ e_)); have n7_ := Aside0.mk (blk_kept (g := gb101) (o := .cells #[.int .i64 a0_0, .int .i64 a0_1, .int .i64 a0_2, .slice A0_3 l0_3.length c0_3, .slice A0_4 l0_4.length c0_4, .slice A0_5 l0_5.length c0_5] 24 (0, 0)) qz3_ hkp (fun hs_ => Or.elim hs_ (fun e_ => (fun e_ => (Kd.R_ne HO_138003.out BK101.out (by decide)) e_) e_) (fun e_ => Or.elim e_ (fun e_ => (fun e_ => (Kd.R_ne HO_138004.out BK101.out (by decide)) e_) e_) (fun e_ => (fun e_ => (Kd.R_ne HO_138005.out BK101.out (by decide)) e_) e_)))); have n8_ := Aside0.mk (blk_kept (g := gb137) (o := .cells #[.int .i64 t125, .int .i64 t126, .int .i64 t127, .slice Ao40 t128.length co40, .slice Ao41 t131.length co41, .slice Ao42 t134.length co42] 29 (0, 0)) qz18_ hkp (fun hs_ => Or.elim hs_ (fun e_ => (fun e_ => (Kd.R_ne HO_138003.out BK137.out (by decide)) e_) e_) (fun e_ => Or.elim e_ (fun e_ => (fun e_ => (Kd.R_ne HO_138004.out BK137.out (by decide)) e_) e_) (fun e_ => (fun e_ => (Kd.R_ne HO_138005.out BK137.out (by decide)) e_) e_)))); have n9_ := Aside0.mk (Kd.R_mono (ok' := fun k_ => some k_ ≠ (.slice Ao40 t128.length co40 : Value).ownBlock ∧ some k_ ≠ (.slice Ao41 t131.length co41 : Value).ownBlock ∧ some k_ ≠ (.slice Ao42 t134.length co42 : Value).ownBlock ∧ some k_ ≠ (.slice Ao72 t155.length co72 : Value).ownBlock ∧ some k_ ≠ (.slice Ao73 t158.length co73 : Value).ownBlock) (Kd.R_keptB (HO154.out) hkp (fun k_ hk_ hs_ => Or.elim hs_ (fun e_ => (hk_.1.1.2) e_) (fun e_ => Or.elim e_ (fun e_ => (hk_.1.2) e_) (fun e_ => (hk_.2) e_)))) (fun k_ hk_ => ⟨hk_.1.1.1.2, hk_.1.1.2, hk_.1.2, hk_.1.1.1.1.1, hk_.1.1.1.1.2⟩)); have n10_ := Aside0.mk (Kd.R_mono (ok' := fun k_ => some k_ ≠ (.slice Ao40 t128.length co40 : Value).ownBlock ∧ some k_ ≠ (.slice Ao41 t131.length co41 : Value).ownBlock ∧ some k_ ≠ (.slice Ao42 t134.length co42 : Value).ownBlock ∧ some k_ ≠ (.slice Ao71 t152.length co71 : Value).ownBlock ∧ some k_ ≠ (.slice Ao73 t158.length co73 : Value).ownBlock) (Kd.R_keptB (HO157.out) hkp (fun k_ hk_ hs_ => Or.elim hs_ (fun e_ => (hk_.1.1.2) e_) (fun e_ => Or.elim e_ (fun e_ => (hk_.1.2) e_) (fun e_ => (hk_.2) e_)))) (fun k_ hk_ => ⟨hk_.1.1.1.2, hk_.1.1.2, hk_.1.2, hk_.1.1.1.1.1, hk_.1.1.1.1.2⟩)); have n11_ := Aside0.mk (Kd.R_mono (ok' := fun k_ => some k_ ≠ (.slice Ao40 t128.length co40 : Value).ownBlock ∧ some k_ ≠ (.slice Ao41 t131.length co41 : Value).ownBlock ∧ some k_ ≠ (.slice Ao42 t134.length co42 : Value).ownBlock ∧ some k_ ≠ (.slice Ao71 t152.length co71 : Value).ownBlock ∧ some k_ ≠ (.slice Ao72 t155.length co72 : Value).ownBlock) (Kd.R_keptB (HO160.out) hkp (fun k_ hk_ hs_ => Or.elim hs_ (fun e_ => (hk_.1.1.2) e_) (fun e_ => Or.elim e_ (fun e_ => (hk_.1.2) e_) (fun e_ => (hk_.2) e_)))) (fun k_ hk_ => ⟨hk_.1.1.1.2, hk_.1.1.2, hk_.1.2, hk_.1.1.1.1.1, hk_.1.1.1.1.2⟩)); have n12_ := Aside0.mk (Kd.R_mono (ok' := fun k_ => some k_ ≠ (v122 : Value).ownBlock ∧ some k_ ≠ (.slice Ao46 t138.length co46 : Value).ownBlock ∧ some k_ ≠ (.slice Ao47 t141.length co47 : Value).ownBlock ∧ some k_ ≠ (v145 : Value).ownBlock ∧ some k_ ≠ (.slice Ao78 t166.length co78 : Value).ownBlock) (Kd.R_keptB ((Kd.R_apart' (Kd.R_apart' (Kd.R_apart' HO164.out (Kd.R_typed HO_138003.out) (by decide)) (Kd.R_typed HO_138004.out) (by decide)) (Kd.R_typed HO_138005.out) (by decide))) hkp (fun k_ hk_ hs_ => Or.elim hs_ (fun e_ => (hk_.1.1.2) e_) (fun e_ => Or.elim e_ (fun e_ => (hk_.1.2) e_) (fun e_ => (hk_.2) e_)))) (fun k_ hk_ => ⟨hk_.1.1.1.1.1.1.1.1.2, hk_.1.1.1.1.1.1.1.2, hk_.1.1.1.1.1.1.2, hk_.1.1.1.1.1.2, hk_.1.1.1.1.2⟩)); have n13_ := Aside0.mk (Kd.R_mono (ok' := fun k_ => some k_ ≠ (v122 : Value).ownBlock ∧ some k_ ≠ (.slice Ao46 t138.length co46 : Value).ownBlock ∧ some k_ ≠ (.slice Ao47 t141.length co47 : Value).ownBlock ∧ some k_ ≠ (v145 : Value).ownBlock ∧ some k_ ≠ (.slice Ao76 t162.length co76 : Value).ownBlock) (Kd.R_keptB ((Kd.R_apart' (Kd.R_apart' (Kd.R_apart' HO168.out (Kd.R_typed HO_138003.out) (by decide)) (Kd.R_typed HO_138004.out) (by decide)) (Kd.R_typed HO_138005.out) (by decide))) hkp (fun k_ hk_ hs_ => Or.elim hs_ (fun e_ => (hk_.1.1.2) e_) (fun e_ => Or.elim e_ (fun e_ => (hk_.1.2) e_) (fun e_ => (hk_.2) e_)))) (fun k_ hk_ => ⟨hk_.1.1.1.1.1.1.1.1.2, hk_.1.1.1.1.1.1.1.2, hk_.1.1.1.1.1.1.2, hk_.1.1.1.1.1.2, hk_.1.1.1.1.2⟩)); have n14_ := Aside0.mk (hb); clear HO_8; clear HO_11; clear HO_12; clear HO_13; clear HO_138003; clear HO_138004; clear HO_138005; clear BK101; clear BK137; clear HO154; clear HO157; clear HO160; clear HO164; clear HO168; clear HB; have HO_8 := n0_; have HO_11 := n1_; have HO_12 := n2_; have HO_13 := n3_; have HO_138003 := n4_; have HO_138004 := n5_; have HO_138005 := n6_; have BK101 := n7_; have BK137 := n8_; have HO154 := n9_; have HO157 := n10_; have HO160 := n11_; have HO164 := n12_; have HO168 := n13_; have HB := n14_; clear n0_ n1_ n2_ n3_ n4_ n5_ n6_ n7_ n8_ n9_ n10_ n11_ n12_ n13_ n14_; (try clear hb); (try clear hkp); (try clear hy0); (try clear hy1); (try clear hy2)) | ((with_reducible refine gate_callee (f := 20) rfl ?_); refine goesL_ (some 83) rfl rfl Try.func20 (by kernel_rfl) rfl #[.slice Ao46 t138.length co46, .int .i64 t170] rfl qz1_ ?_; (with_reducible refine (laws_markIntS.calls kj20 (fun k_ => some k_ = (.slice Ao46 t138.length co46 : Value).ownBlock) (.slice Ao46 t138.length co46) t138 t170 t174 t175 w _ ?side1 ?side2 A66.out).mono ?_); (case side1 => repeat (first | (with_reducible first | exact HB.out | apply below_alloc | apply pw_below_drewN | apply below_drew1 | refine below_set ?_ GE101.out | refine below_set ?_ GE137.out) | exact HB.out)); (case side2 => exact Kd.R_tight rfl HO_11.out); rintro e w82 ⟨rfl, hy0, hb, hkp⟩; refine ⟨_, rfl, ?_⟩; have n0_ := Aside0.mk (Kd.R_mono (ok' := fun k_ => some k_ ≠ (.slice Ao46 t138.length co46 : Value).ownBlock ∧ some k_ ≠ (.slice Ao47 t141.length co47 : Value).ownBlock ∧ some k_ ≠ (v145 : Value).ownBlock ∧ some k_ ≠ (.slice Ao76 t162.length co76 : Value).ownBlock ∧ some k_ ≠ (.slice Ao78 t166.length co78 : Value).ownBlock) (Kd.R_keptB (HO_8.out) hkp (fun k_ hk_ hs_ => (hk_.1) hs_)) (fun k_ hk_ => ⟨hk_.1.1, hk_.1.2.1, hk_.1.2.2.1, hk_.1.2.2.2.1, hk_.1.2.2.2.2⟩)); have n1_ := Aside0.mk (Kd.R_reok rfl hy0 (fun k_ e_ => HO_11.out.1 k_ e_)); have n2_ := Aside0.mk (Kd.R_mono (ok' := fun k_ => some k_ ≠ (v122 : Value).ownBlock ∧ some k_ ≠ (.slice Ao46 t138.length co46 : Value).ownBlock ∧ some k_ ≠ (v145 : Value).ownBlock ∧ some k_ ≠ (.slice Ao76 t162.length co76 : Value).ownBlock ∧ some k_ ≠ (.slice Ao78 t166.length co78 : Value).ownBlock) (Kd.R_keptB (HO_12.out) hkp (fun k_ hk_ hs_ => (hk_.2.1) hs_)) (fun k_ hk_ => ⟨hk_.1.1, hk_.1.2.1, hk_.1.2.2.1, hk_.1.2.2.2.1, hk_.1.2.2.2.2⟩)); have n3_ := Aside0.mk (Kd.R_mono (ok' := fun k_ => some k_ ≠ (v122 : Value).ownBlock ∧ some k_ ≠ (.slice Ao46 t138.length co46 : Value).ownBlock ∧ some k_ ≠ (.slice Ao47 t141.length co47 : Value).ownBlock ∧ some k_ ≠ (.slice Ao76 t162.length co76 : Value).ownBlock ∧ some k_ ≠ (.slice Ao78 t166.length co78 : Value).ownBlock) (Kd.R_keptB (HO_13.out) hkp (fun k_ hk_ hs_ => (hk_.2.1) hs_)) (fun k_ hk_ => ⟨hk_.1.1, hk_.1.2.1, hk_.1.2.2.1, hk_.1.2.2.2.1, hk_.1.2.2.2.2⟩)); have n4_ := Aside0.mk (Kd.R_mono (ok' := fun k_ => some k_ ≠ (.slice Ao41 t131.length co41 : Value).ownBlock ∧ some k_ ≠ (.slice Ao42 t134.length co42 : Value).ownBlock ∧ some k_ ≠ (.slice Ao71 t152.length co71 : Value).ownBlock ∧ some k_ ≠ (.slice Ao72 t155.length co72 : Value).ownBlock ∧ some k_ ≠ (.slice Ao73 t158.length co73 : Value).ownBlock) (Kd.R_keptB ((Kd.R_apart' HO_138003.out (Kd.R_typed HO_11.out) (by decide))) hkp (fun k_ hk_ hs_ => (hk_.2) hs_)) (fun k_ hk_ => ⟨hk_.1.1.1.1.1.1, hk_.1.1.1.1.1.2, hk_.1.1.1.1.2, hk_.1.1.1.2, hk_.1.1.2⟩)); have n5_ := Aside0.mk (Kd.R_mono (ok' := fun k_ => some k_ ≠ (.slice Ao40 t128.length co40 : Value).ownBlock ∧ some k_ ≠ (.slice Ao42 t134.length co42 : Value).ownBlock ∧ some k_ ≠ (.slice Ao71 t152.length co71 : Value).ownBlock ∧ some k_ ≠ (.slice Ao72 t155.length co72 : Value).ownBlock ∧ some k_ ≠ (.slice Ao73 t158.length co73 : Value).ownBlock) (Kd.R_keptB ((Kd.R_apart' HO_138004.out (Kd.R_typed HO_11.out) (by decide))) hkp (fun k_ hk_ hs_ => (hk_.2) hs_)) (fun k_ hk_ => ⟨hk_.1.1.1.1.1.1, hk_.1.1.1.1.1.2, hk_.1.1.1.1.2, hk_.1.1.1.2, hk_.1.1.2⟩)); have n6_ := Aside0.mk (Kd.R_mono (ok' := fun k_ => some k_ ≠ (.slice Ao40 t128.length co40 : Value).ownBlock ∧ some k_ ≠ (.slice Ao41 t131.length co41 : Value).ownBlock ∧ some k_ ≠ (.slice Ao71 t152.length co71 : Value).ownBlock ∧ some k_ ≠ (.slice Ao72 t155.length co72 : Value).ownBlock ∧ some k_ ≠ (.slice Ao73 t158.length co73 : Value).ownBlock) (Kd.R_keptB ((Kd.R_apart' HO_138005.out (Kd.R_typed HO_11.out) (by decide))) hkp (fun k_ hk_ hs_ => (hk_.2) hs_)) (fun k_ hk_ => ⟨hk_.1.1.1.1.1.1, hk_.1.1.1.1.1.2, hk_.1.1.1.1.2, hk_.1.1.1.2, hk_.1.1.2⟩)); have n7_ := Aside0.mk (blk_kept (g := gb101) (o := .cells #[.int .i64 a0_0, .int .i64 a0_1, .int .i64 a0_2, .slice A0_3 l0_3.length c0_3, .slice A0_4 l0_4.length c0_4, .slice A0_5 l0_5.length c0_5] 24 (0, 0)) qz3_ hkp (fun hs_ => (fun e_ => (Kd.R_ne HO_11.out BK101.out (by decide)) e_) hs_)); have n8_ := Aside0.mk (blk_kept (g := gb137) (o := .cells #[.int .i64 t125, .int .i64 t126, .int .i64 t127, .slice Ao40 t128.length co40, .slice Ao41 t131.length co41, .slice Ao42 t134.length co42] 29 (0, 0)) qz18_ hkp (fun hs_ => (fun e_ => (Kd.R_ne HO_11.out BK137.out (by decide)) e_) hs_)); have n9_ := Aside0.mk (Kd.R_mono (ok' := fun k_ => some k_ ≠ (.slice Ao40 t128.length co40 : Value).ownBlock ∧ some k_ ≠ (.slice Ao41 t131.length co41 : Value).ownBlock ∧ some k_ ≠ (.slice Ao42 t134.length co42 : Value).ownBlock ∧ some k_ ≠ (.slice Ao72 t155.length co72 : Value).ownBlock ∧ some k_ ≠ (.slice Ao73 t158.length co73 : Value).ownBlock) (Kd.R_keptB ((Kd.R_apart' HO154.out (Kd.R_typed HO_11.out) (by decide))) hkp (fun k_ hk_ hs_ => (hk_.2) hs_)) (fun k_ hk_ => ⟨hk_.1.1.1, hk_.1.1.2.1, hk_.1.1.2.2.1, hk_.1.1.2.2.2.1, hk_.1.1.2.2.2.2⟩)); have n10_ := Aside0.mk (Kd.R_mono (ok' := fun k_ => some k_ ≠ (.slice Ao40 t128.length co40 : Value).ownBlock ∧ some k_ ≠ (.slice Ao41 t131.length co41 : Value).ownBlock ∧ some k_ ≠ (.slice Ao42 t134.length co42 : Value).ownBlock ∧ some k_ ≠ (.slice Ao71 t152.length co71 : Value).ownBlock ∧ some k_ ≠ (.slice Ao73 t158.length co73 : Value).ownBlock) (Kd.R_keptB ((Kd.R_apart' HO157.out (Kd.R_typed HO_11.out) (by decide))) hkp (fun k_ hk_ hs_ => (hk_.2) hs_)) (fun k_ hk_ => ⟨hk_.1.1.1, hk_.1.1.2.1, hk_.1.1.2.2.1, hk_.1.1.2.2.2.1, hk_.1.1.2.2.2.2⟩)); have n11_ := Aside0.mk (Kd.R_mono (ok' := fun k_ => some k_ ≠ (.slice Ao40 t128.length co40 : Value).ownBlock ∧ some k_ ≠ (.slice Ao41 t131.length co41 : Value).ownBlock ∧ some k_ ≠ (.slice Ao42 t134.length co42 : Value).ownBlock ∧ some k_ ≠ (.slice Ao71 t152.length co71 : Value).ownBlock ∧ some k_ ≠ (.slice Ao72 t155.length co72 : Value).ownBlock) (Kd.R_keptB ((Kd.R_apart' HO160.out (Kd.R_typed HO_11.out) (by decide))) hkp (fun k_ hk_ hs_ => (hk_.2) hs_)) (fun k_ hk_ => ⟨hk_.1.1.1, hk_.1.1.2.1, hk_.1.1.2.2.1, hk_.1.1.2.2.2.1, hk_.1.1.2.2.2.2⟩)); have n12_ := Aside0.mk (Kd.R_mono (ok' := fun k_ => some k_ ≠ (v122 : Value).ownBlock ∧ some k_ ≠ (.slice Ao46 t138.length co46 : Value).ownBlock ∧ some k_ ≠ (.slice Ao47 t141.length co47 : Value).ownBlock ∧ some k_ ≠ (v145 : Value).ownBlock ∧ some k_ ≠ (.slice Ao78 t166.length co78 : Value).ownBlock) (Kd.R_keptB (HO164.out) hkp (fun k_ hk_ hs_ => (hk_.2.1) hs_)) (fun k_ hk_ => ⟨hk_.1.1, hk_.1.2.1, hk_.1.2.2.1, hk_.1.2.2.2.1, hk_.1.2.2.2.2⟩)); have n13_ := Aside0.mk (Kd.R_mono (ok' := fun k_ => some k_ ≠ (v122 : Value).ownBlock ∧ some k_ ≠ (.slice Ao46 t138.length co46 : Value).ownBlock ∧ some k_ ≠ (.slice Ao47 t141.length co47 : Value).ownBlock ∧ some k_ ≠ (v145 : Value).ownBlock ∧ some k_ ≠ (.slice Ao76 t162.length co76 : Value).ownBlock) (Kd.R_keptB (HO168.out) hkp (fun k_ hk_ hs_ => (hk_.2.1) hs_)) (fun k_ hk_ => ⟨hk_.1.1, hk_.1.2.1, hk_.1.2.2.1, hk_.1.2.2.2.1, hk_.1.2.2.2.2⟩)); have n14_ := Aside0.mk (hb); clear HO_8; clear HO_11; clear HO_12; clear HO_13; clear HO_138003; clear HO_138004; clear HO_138005; clear BK101; clear BK137; clear HO154; clear HO157; clear HO160; clear HO164; clear HO168; clear HB; have HO_8 := n0_; have HO_11 := n1_; have HO_12 := n2_; have HO_13 := n3_; have HO_138003 := n4_; have HO_138004 := n5_; have HO_138005 := n6_; have BK101 := n7_; have BK137 := n8_; have HO154 := n9_; have HO157 := n10_; have HO160 := n11_; have HO164 := n12_; have HO168 := n13_; have HB := n14_; clear n0_ n1_ n2_ n3_ n4_ n5_ n6_ n7_ n8_ n9_ n10_ n11_ n12_ n13_ n14_; (try clear hb); (try clear hkp); (try clear hy0)) | ((with_reducible refine gate_callee (f := 20) rfl ?_); refine goesL_ (some 86) rfl rfl Try.func20 (by kernel_rfl) rfl #[.slice Ao47 t141.length co47, .int .i64 t174] rfl qz1_ ?_; (with_reducible refine (laws_markIntS.calls kj20 (fun k_ => some k_ = (.slice Ao47 t141.length co47 : Value).ownBlock) (.slice Ao47 t141.length co47) t141 t174 t176 t177 w _ ?side1 ?side2 A67.out).mono ?_); (case side1 => repeat (first | (with_reducible first | exact HB.out | apply below_alloc | apply pw_below_drewN | apply below_drew1 | refine below_set ?_ GE101.out | refine below_set ?_ GE137.out) | exact HB.out)); (case side2 => exact Kd.R_tight rfl HO_12.out); rintro e w83 ⟨rfl, hy0, hb, hkp⟩; refine ⟨_, rfl, ?_⟩; have n0_ := Aside0.mk (Kd.R_mono (ok' := fun k_ => some k_ ≠ (.slice Ao46 t138.length co46 : Value).ownBlock ∧ some k_ ≠ (.slice Ao47 t141.length co47 : Value).ownBlock ∧ some k_ ≠ (v145 : Value).ownBlock ∧ some k_ ≠ (.slice Ao76 t162.length co76 : Value).ownBlock ∧ some k_ ≠ (.slice Ao78 t166.length co78 : Value).ownBlock) (Kd.R_keptB (HO_8.out) hkp (fun k_ hk_ hs_ => (hk_.2.1) hs_)) (fun k_ hk_ => ⟨hk_.1.1, hk_.1.2.1, hk_.1.2.2.1, hk_.1.2.2.2.1, hk_.1.2.2.2.2⟩)); have n1_ := Aside0.mk (Kd.R_mono (ok' := fun k_ => some k_ ≠ (v122 : Value).ownBlock ∧ some k_ ≠ (.slice Ao47 t141.length co47 : Value).ownBlock ∧ some k_ ≠ (v145 : Value).ownBlock ∧ some k_ ≠ (.slice Ao76 t162.length co76 : Value).ownBlock ∧ some k_ ≠ (.slice Ao78 t166.length co78 : Value).ownBlock) (Kd.R_keptB (HO_11.out) hkp (fun k_ hk_ hs_ => (hk_.2.1) hs_)) (fun k_ hk_ => ⟨hk_.1.1, hk_.1.2.1, hk_.1.2.2.1, hk_.1.2.2.2.1, hk_.1.2.2.2.2⟩)); have n2_ := Aside0.mk (Kd.R_reok rfl hy0 (fun k_ e_ => HO_12.out.1 k_ e_)); have n3_ := Aside0.mk (Kd.R_mono (ok' := fun k_ => some k_ ≠ (v122 : Value).ownBlock ∧ some k_ ≠ (.slice Ao46 t138.length co46 : Value).ownBlock ∧ some k_ ≠ (.slice Ao47 t141.length co47 : Value).ownBlock ∧ some k_ ≠ (.slice Ao76 t162.length co76 : Value).ownBlock ∧ some k_ ≠ (.slice Ao78 t166.length co78 : Value).ownBlock) (Kd.R_keptB (HO_13.out) hkp (fun k_ hk_ hs_ => (hk_.2.2.1) hs_)) (fun k_ hk_ => ⟨hk_.1.1, hk_.1.2.1, hk_.1.2.2.1, hk_.1.2.2.2.1, hk_.1.2.2.2.2⟩)); have n4_ := Aside0.mk (Kd.R_mono (ok' := fun k_ => some k_ ≠ (.slice Ao41 t131.length co41 : Value).ownBlock ∧ some k_ ≠ (.slice Ao42 t134.length co42 : Value).ownBlock ∧ some k_ ≠ (.slice Ao71 t152.length co71 : Value).ownBlock ∧ some k_ ≠ (.slice Ao72 t155.length co72 : Value).ownBlock ∧ some k_ ≠ (.slice Ao73 t158.length co73 : Value).ownBlock) (Kd.R_keptB ((Kd.R_apart' HO_138003.out (Kd.R_typed HO_12.out) (by decide))) hkp (fun k_ hk_ hs_ => (hk_.2) hs_)) (fun k_ hk_ => ⟨hk_.1.1.1, hk_.1.1.2.1, hk_.1.1.2.2.1, hk_.1.1.2.2.2.1, hk_.1.1.2.2.2.2⟩)); have n5_ := Aside0.mk (Kd.R_mono (ok' := fun k_ => some k_ ≠ (.slice Ao40 t128.length co40 : Value).ownBlock ∧ some k_ ≠ (.slice Ao42 t134.length co42 : Value).ownBlock ∧ some k_ ≠ (.slice Ao71 t152.length co71 : Value).ownBlock ∧ some k_ ≠ (.slice Ao72 t155.length co72 : Value).ownBlock ∧ some k_ ≠ (.slice Ao73 t158.length co73 : Value).ownBlock) (Kd.R_keptB ((Kd.R_apart' HO_138004.out (Kd.R_typed HO_12.out) (by decide))) hkp (fun k_ hk_ hs_ => (hk_.2) hs_)) (fun k_ hk_ => ⟨hk_.1.1.1, hk_.1.1.2.1, hk_.1.1.2.2.1, hk_.1.1.2.2.2.1, hk_.1.1.2.2.2.2⟩)); have n6_ := Aside0.mk (Kd.R_mono (ok' := fun k_ => some k_ ≠ (.slice Ao40 t128.length co40 : Value).ownBlock ∧ some k_ ≠ (.slice Ao41 t131.length co41 : Value).ownBlock ∧ some k_ ≠ (.slice Ao71 t152.length co71 : Value).ownBlock ∧ some k_ ≠ (.slice Ao72 t155.length co72 : Value).ownBlock ∧ some k_ ≠ (.slice Ao73 t158.length co73 : Value).ownBlock) (Kd.R_keptB ((Kd.R_apart' HO_138005.out (Kd.R_typed HO_12.out) (by decide))) hkp (fun k_ hk_ hs_ => (hk_.2) hs_)) (fun k_ hk_ => ⟨hk_.1.1.1, hk_.1.1.2.1, hk_.1.1.2.2.1, hk_.1.1.2.2.2.1, hk_.1.1.2.2.2.2⟩)); have n7_ := Aside0.mk (blk_kept (g := gb101) (o := .cells #[.int .i64 a0_0, .int .i64 a0_1, .int .i64 a0_2, .slice A0_3 l0_3.length c0_3, .slice A0_4 l0_4.length c0_4, .slice A0_5 l0_5.length c0_5] 24 (0, 0)) qz3_ hkp (fun hs_ => (fun e_ => (Kd.R_ne HO_12.out BK101.out (by decide)) e_) hs_)); have n8_ := Aside0.mk (blk_kept (g := gb137) (o := .cells #[.int .i64 t125, .int .i64 t126, .int .i64 t127, .slice Ao40 t128.length co40, .slice Ao41 t131.length co41, .slice Ao42 t134.length co42] 29 (0, 0)) qz18_ hkp (fun hs_ => (fun e_ => (Kd.R_ne HO_12.out BK137.out (by decide)) e_) hs_)); have n9_ := Aside0.mk (Kd.R_mono (ok' := fun k_ => some k_ ≠ (.slice Ao40 t128.length co40 : Value).ownBlock ∧ some k_ ≠ (.slice Ao41 t131.length co41 : Value).ownBlock ∧ some k_ ≠ (.slice Ao42 t134.length co42 : Value).ownBlock ∧ some k_ ≠ (.slice Ao72 t155.length co72 : Value).ownBlock ∧ some k_ ≠ (.slice Ao73 t158.length co73 : Value).ownBlock) (Kd.R_keptB ((Kd.R_apart' HO154.out (Kd.R_typed HO_12.out) (by decide))) hkp (fun k_ hk_ hs_ => (hk_.2) hs_)) (fun k_ hk_ => ⟨hk_.1.1.1, hk_.1.1.2.1, hk_.1.1.2.2.1, hk_.1.1.2.2.2.1, hk_.1.1.2.2.2.2⟩)); have n10_ := Aside0.mk (Kd.R_mono (ok' := fun k_ => some k_ ≠ (.slice Ao40 t128.length co40 : Value).ownBlock ∧ some k_ ≠ (.slice Ao41 t131.length co41 : Value).ownBlock ∧ some k_ ≠ (.slice Ao42 t134.length co42 : Value).ownBlock ∧ some k_ ≠ (.slice Ao71 t152.length co71 : Value).ownBlock ∧ some k_ ≠ (.slice Ao73 t158.length co73 : Value).ownBlock) (Kd.R_keptB ((Kd.R_apart' HO157.out (Kd.R_typed HO_12.out) (by decide))) hkp (fun k_ hk_ hs_ => (hk_.2) hs_)) (fun k_ hk_ => ⟨hk_.1.1.1, hk_.1.1.2.1, hk_.1.1.2.2.1, hk_.1.1.2.2.2.1, hk_.1.1.2.2.2.2⟩)); have n11_ := Aside0.mk (Kd.R_mono (ok' := fun k_ => some k_ ≠ (.slice Ao40 t128.length co40 : Value).ownBlock ∧ some k_ ≠ (.slice Ao41 t131.length co41 : Value).ownBlock ∧ some k_ ≠ (.slice Ao42 t134.length co42 : Value).ownBlock ∧ some k_ ≠ (.slice Ao71 t152.length co71 : Value).ownBlock ∧ some k_ ≠ (.slice Ao72 t155.length co72 : Value).ownBlock) (Kd.R_keptB ((Kd.R_apart' HO160.out (Kd.R_typed HO_12.out) (by decide))) hkp (fun k_ hk_ hs_ => (hk_.2) hs_)) (fun k_ hk_ => ⟨hk_.1.1.1, hk_.1.1.2.1, hk_.1.1.2.2.1, hk_.1.1.2.2.2.1, hk_.1.1.2.2.2.2⟩)); have n12_ := Aside0.mk (Kd.R_mono (ok' := fun k_ => some k_ ≠ (v122 : Value).ownBlock ∧ some k_ ≠ (.slice Ao46 t138.length co46 : Value).ownBlock ∧ some k_ ≠ (.slice Ao47 t141.length co47 : Value).ownBlock ∧ some k_ ≠ (v145 : Value).ownBlock ∧ some k_ ≠ (.slice Ao78 t166.length co78 : Value).ownBlock) (Kd.R_keptB (HO164.out) hkp (fun k_ hk_ hs_ => (hk_.2.2.1) hs_)) (fun k_ hk_ => ⟨hk_.1.1, hk_.1.2.1, hk_.1.2.2.1, hk_.1.2.2.2.1, hk_.1.2.2.2.2⟩)); have n13_ := Aside0.mk (Kd.R_mono (ok' := fun k_ => some k_ ≠ (v122 : Value).ownBlock ∧ some k_ ≠ (.slice Ao46 t138.length co46 : Value).ownBlock ∧ some k_ ≠ (.slice Ao47 t141.length co47 : Value).ownBlock ∧ some k_ ≠ (v145 : Value).ownBlock ∧ some k_ ≠ (.slice Ao76 t162.length co76 : Value).ownBlock) (Kd.R_keptB (HO168.out) hkp (fun k_ hk_ hs_ => (hk_.2.2.1) hs_)) (fun k_ hk_ => ⟨hk_.1.1, hk_.1.2.1, hk_.1.2.2.1, hk_.1.2.2.2.1, hk_.1.2.2.2.2⟩)); have n14_ := Aside0.mk (hb); clear HO_8; clear HO_11; clear HO_12; clear HO_13; clear HO_138003; clear HO_138004; clear HO_138005; clear BK101; clear BK137; clear HO154; clear HO157; clear HO160; clear HO164; clear HO168; clear HB; have HO_8 := n0_; have HO_11 := n1_; have HO_12 := n2_; have HO_13 := n3_; have HO_138003 := n4_; have HO_138004 := n5_; have HO_138005 := n6_; have BK101 := n7_; have BK137 := n8_; have HO154 := n9_; have HO157 := n10_; have HO160 := n11_; have HO164 := n12_; have HO168 := n13_; have HB := n14_; clear n0_ n1_ n2_ n3_ n4_ n5_ n6_ n7_ n8_ n9_ n10_ n11_ n12_ n13_ n14_; (try clear hb); (try clear hkp); (try clear hy0)))
                    (try simp only [Act.put, List.setIfInBounds_toArray, List.set_cons_zero, List.set_cons_succ])
                    go_cut [99] (fun v99 wc => ∃ (kq : Nat) (x99_67 : Bool), v99 = .bool x99_67 ∧ Aside0 (laws_FnExactVectorOf.j1 kq l1 l2 t121 t124 t144 x99_67 a0_0 a0_1 a0_2 l0_3 l0_4 l0_5 = some r) ∧ Aside0 (kq ≤ kj20) ∧ Aside0 (Kd.R (Kd.int .i64) 3 wc w.heap.size (fun k_ => some k_ ≠ (v145 : Value).ownBlock) v122 t121) ∧ Aside0 (Kd.R (Kd.int .i64) 3 wc w.heap.size (fun k_ => some k_ ≠ (v122 : Value).ownBlock) v145 t144) ∧ Aside0 (Kd.R k53 53 wc w.heap.size (fun k_ => some k_ ≠ ((.slice Ao41 t131.length co41) : Value).ownBlock ∧ some k_ ≠ ((.slice Ao42 t134.length co42) : Value).ownBlock) (.slice Ao40 t128.length co40) t171) ∧ Aside0 (Kd.R k53 53 wc w.heap.size (fun k_ => some k_ ≠ ((.slice Ao40 t128.length co40) : Value).ownBlock ∧ some k_ ≠ ((.slice Ao42 t134.length co42) : Value).ownBlock) (.slice Ao41 t131.length co41) t172) ∧ Aside0 (Kd.R k53 53 wc w.heap.size (fun k_ => some k_ ≠ ((.slice Ao40 t128.length co40) : Value).ownBlock ∧ some k_ ≠ ((.slice Ao41 t131.length co41) : Value).ownBlock) (.slice Ao42 t134.length co42) t173) ∧ Aside0 (wc.heap[gb101]? = some (.cells #[.int .i64 a0_0, .int .i64 a0_1, .int .i64 a0_2, (.slice A0_3 l0_3.length c0_3), (.slice A0_4 l0_4.length c0_4), (.slice A0_5 l0_5.length c0_5)] 24 (0, 0))) ∧ Aside0 (wc.heap[gb137]? = some (.cells #[.int .i64 t125, .int .i64 t126, .int .i64 t127, (.slice Ao40 t128.length co40), (.slice Ao41 t131.length co41), (.slice Ao42 t134.length co42)] 29 (0, 0))) ∧ Aside0 (Below w.heap.size w wc))
                    case first =>
                      have H := HC68.out
                      clear HC68
                      by_cases c84 : t176 < 0
                      · rw [if_pos c84] at H
                        have c84b0 : decide (t176 < 0) = true := decide_eq_true c84
                        clear c84
                        (first | rw [c84b0] | (simp only [i64_w, i32_w]; rw [c84b0]) | skip)
                        have H' := Aside0.mk H
                        clear H
                        go_wp2
                        go_meet
                        case rel => exact ⟨_, (true), qz7_, H', ⟨by have := HJ20.out; first | omega | exact Nat.le_refl _⟩, ⟨by (with_reducible repeat (first | apply Kd.R_alloc | apply Kd.R_drewN | apply Kd.R_drew)); exact Kd.R_mono HO_8.out (fun _ hk => hk.2.2.1)⟩, ⟨by (with_reducible repeat (first | apply Kd.R_alloc | apply Kd.R_drewN | apply Kd.R_drew)); exact Kd.R_mono HO_13.out (fun _ hk => hk.1)⟩, ⟨by (with_reducible repeat (first | apply Kd.R_alloc | apply Kd.R_drewN | apply Kd.R_drew)); exact Kd.R_mono HO_138003.out (fun _ hk => ⟨hk.1, hk.2.1⟩)⟩, ⟨by (with_reducible repeat (first | apply Kd.R_alloc | apply Kd.R_drewN | apply Kd.R_drew)); exact Kd.R_mono HO_138004.out (fun _ hk => ⟨hk.1, hk.2.1⟩)⟩, ⟨by (with_reducible repeat (first | apply Kd.R_alloc | apply Kd.R_drewN | apply Kd.R_drew)); exact Kd.R_mono HO_138005.out (fun _ hk => ⟨hk.1, hk.2.1⟩)⟩, ⟨by (with_reducible repeat (first | refine blk_drewN ?_ _ | refine blk_drew ?_ | refine blk_alloc ?_ _)); exact BK101.out⟩, ⟨by (with_reducible repeat (first | refine blk_drewN ?_ _ | refine blk_drew ?_ | refine blk_alloc ?_ _)); exact BK137.out⟩, ⟨by repeat (first | (with_reducible first | exact HB.out | apply below_alloc | apply pw_below_drewN | apply below_drew1 | refine below_set ?_ GE101.out | refine below_set ?_ GE137.out) | exact HB.out)⟩⟩
                      · rw [if_neg c84] at H
                        have c84b0 : decide (t176 < 0) = false := decide_eq_false c84
                        clear c84
                        (first | rw [c84b0] | (simp only [i64_w, i32_w]; rw [c84b0]) | skip)
                        replace H := Option.bind_eq_some_iff.mp H
                        obtain ⟨t178, A850, H⟩ := H
                        replace H : (if t178 = true then (laws_FnExactVectorOf.j1 kj20 l1 l2 t121 t124 t144 (t147 != t124) a0_0 a0_1 a0_2 l0_3 l0_4 l0_5) else (laws_FnExactVectorOf.j1 kj20 l1 l2 t121 t124 t144 true a0_0 a0_1 a0_2 l0_3 l0_4 l0_5)) = some r := H
                        have A85 := Aside0.mk A850
                        clear A850
                        by_cases c86 : t178 = true
                        · subst c86
                          have H1 : (laws_FnExactVectorOf.j1 kj20 l1 l2 t121 t124 t144 (t147 != t124) a0_0 a0_1 a0_2 l0_3 l0_4 l0_5) = some r := by rw [if_pos rfl] at H; exact H
                          clear H
                          have H := H1
                          clear H1
                          have H' := Aside0.mk H
                          clear H
                          obtain ⟨Ao87, co87, eo87⟩ := Kd.R_slice HO_13.out
                          subst eo87
                          obtain ⟨Ao88, co88, eo88⟩ := Kd.R_slice HO_8.out
                          subst eo88
                          go_wp2_with (first | (go_at_call 18; (with_reducible refine (laws_eqIntS.calls kj20 _ _ t144 _ _ t121 true _ ?side1 ?side2 ?side3 ?side4 A85.out).mono ?_); (case side1 => repeat (first | exact (Kd.R_reads' HO_13.out).2.2 | (with_reducible refine Kd.C_alloc ?_ _) | (with_reducible refine Kd.C_drewN ?_ _) | (with_reducible refine Kd.C_drew ?_))); (case side2 => exact (Kd.R_reads' HO_13.out).2.1); (case side3 => repeat (first | exact (Kd.R_reads' HO_8.out).2.2 | (with_reducible refine Kd.C_alloc ?_ _) | (with_reducible refine Kd.C_drewN ?_ _) | (with_reducible refine Kd.C_drew ?_))); (case side4 => exact (Kd.R_reads' HO_8.out).2.1); rintro e w' ⟨rfl, ⟨nd, rfl⟩⟩))
                          go_meet
                          case rel => exact ⟨_, ((t147 != t124)), qz7_, H', ⟨by have := HJ20.out; first | omega | exact Nat.le_refl _⟩, ⟨by (with_reducible repeat (first | apply Kd.R_alloc | apply Kd.R_drewN | apply Kd.R_drew)); exact Kd.R_mono HO_8.out (fun _ hk => hk.2.2.1)⟩, ⟨by (with_reducible repeat (first | apply Kd.R_alloc | apply Kd.R_drewN | apply Kd.R_drew)); exact Kd.R_mono HO_13.out (fun _ hk => hk.1)⟩, ⟨by (with_reducible repeat (first | apply Kd.R_alloc | apply Kd.R_drewN | apply Kd.R_drew)); exact Kd.R_mono HO_138003.out (fun _ hk => ⟨hk.1, hk.2.1⟩)⟩, ⟨by (with_reducible repeat (first | apply Kd.R_alloc | apply Kd.R_drewN | apply Kd.R_drew)); exact Kd.R_mono HO_138004.out (fun _ hk => ⟨hk.1, hk.2.1⟩)⟩, ⟨by (with_reducible repeat (first | apply Kd.R_alloc | apply Kd.R_drewN | apply Kd.R_drew)); exact Kd.R_mono HO_138005.out (fun _ hk => ⟨hk.1, hk.2.1⟩)⟩, ⟨by (with_reducible repeat (first | refine blk_drewN ?_ _ | refine blk_drew ?_ | refine blk_alloc ?_ _)); exact BK101.out⟩, ⟨by (with_reducible repeat (first | refine blk_drewN ?_ _ | refine blk_drew ?_ | refine blk_alloc ?_ _)); exact BK137.out⟩, ⟨by repeat (first | (with_reducible first | exact HB.out | apply below_alloc | apply pw_below_drewN | apply below_drew1 | refine below_set ?_ GE101.out | refine below_set ?_ GE137.out) | exact HB.out)⟩⟩
                        · replace c86 := Bool.eq_false_iff.mpr c86
                          subst c86
                          have H1 : (laws_FnExactVectorOf.j1 kj20 l1 l2 t121 t124 t144 true a0_0 a0_1 a0_2 l0_3 l0_4 l0_5) = some r := by rw [if_neg (show ¬ (false = true) by decide)] at H; exact H
                          clear H
                          have H := H1
                          clear H1
                          have H' := Aside0.mk H
                          clear H
                          obtain ⟨Ao89, co89, eo89⟩ := Kd.R_slice HO_13.out
                          subst eo89
                          obtain ⟨Ao90, co90, eo90⟩ := Kd.R_slice HO_8.out
                          subst eo90
                          go_wp2_with (first | (go_at_call 18; (with_reducible refine (laws_eqIntS.calls kj20 _ _ t144 _ _ t121 false _ ?side1 ?side2 ?side3 ?side4 A85.out).mono ?_); (case side1 => repeat (first | exact (Kd.R_reads' HO_13.out).2.2 | (with_reducible refine Kd.C_alloc ?_ _) | (with_reducible refine Kd.C_drewN ?_ _) | (with_reducible refine Kd.C_drew ?_))); (case side2 => exact (Kd.R_reads' HO_13.out).2.1); (case side3 => repeat (first | exact (Kd.R_reads' HO_8.out).2.2 | (with_reducible refine Kd.C_alloc ?_ _) | (with_reducible refine Kd.C_drewN ?_ _) | (with_reducible refine Kd.C_drew ?_))); (case side4 => exact (Kd.R_reads' HO_8.out).2.1); rintro e w' ⟨rfl, ⟨nd, rfl⟩⟩))
                          go_meet
                          case rel => exact ⟨_, (true), qz7_, H', ⟨by have := HJ20.out; first | omega | exact Nat.le_refl _⟩, ⟨by (with_reducible repeat (first | apply Kd.R_alloc | apply Kd.R_drewN | apply Kd.R_drew)); exact Kd.R_mono HO_8.out (fun _ hk => hk.2.2.1)⟩, ⟨by (with_reducible repeat (first | apply Kd.R_alloc | apply Kd.R_drewN | apply Kd.R_drew)); exact Kd.R_mono HO_13.out (fun _ hk => hk.1)⟩, ⟨by (with_reducible repeat (first | apply Kd.R_alloc | apply Kd.R_drewN | apply Kd.R_drew)); exact Kd.R_mono HO_138003.out (fun _ hk => ⟨hk.1, hk.2.1⟩)⟩, ⟨by (with_reducible repeat (first | apply Kd.R_alloc | apply Kd.R_drewN | apply Kd.R_drew)); exact Kd.R_mono HO_138004.out (fun _ hk => ⟨hk.1, hk.2.1⟩)⟩, ⟨by (with_reducible repeat (first | apply Kd.R_alloc | apply Kd.R_drewN | apply Kd.R_drew)); exact Kd.R_mono HO_138005.out (fun _ hk => ⟨hk.1, hk.2.1⟩)⟩, ⟨by (with_reducible repeat (first | refine blk_drewN ?_ _ | refine blk_drew ?_ | refine blk_alloc ?_ _)); exact BK101.out⟩, ⟨by (with_reducible repeat (first | refine blk_drewN ?_ _ | refine blk_drew ?_ | refine blk_alloc ?_ _)); exact BK137.out⟩, ⟨by repeat (first | (with_reducible first | exact HB.out | apply below_alloc | apply pw_below_drewN | apply below_drew1 | refine below_set ?_ GE101.out | refine below_set ?_ GE137.out) | exact HB.out)⟩⟩
                    case rest =>
                      clear HC68
                      try clear c1
                      try clear c2
                      try clear p2
                      try clear c3
                      try clear c4
                      try clear c4b0
                      try clear c4b1
                      try clear c5
                      try clear c6
                      try clear c6b0
                      try clear c6b1
                      try clear c7
                      try clear c8
                      try clear c9
                      try clear c9b0
                      try clear c10
                      try clear c12
                      try clear c14
                      try clear c15
                      try clear c16
                      try clear c17
                      try clear c18
                      try clear c19
                      try clear c20
                      try clear c38
                      try clear c50
                      try clear c55
                      try clear c58
                      try clear c61
                      try clear c64
                      try clear c79
                      try clear c84
                      try clear c84b0
                      try clear c86
                      try clear hcz11_0
                      try clear hcz11_1
                      try clear hcz11_2
                      try clear hcz11_3
                      try clear hcz11_4
                      try clear hcz11_5
                      try clear hcz23_0
                      try clear hcz23_1
                      try clear hcz23_2
                      try clear hcz23_3
                      try clear hcz23_4
                      try clear hcz23_5
                      try clear hcz25_0
                      try clear hcz25_1
                      try clear hcz25_2
                      try clear hcz25_3
                      try clear hcz25_4
                      try clear hcz25_5
                      try clear hcz35_0
                      try clear hcz35_1
                      try clear hcz35_2
                      try clear hcz35_3
                      try clear hcz35_4
                      try clear hcz35_5
                      try clear hcz39_0
                      try clear hcz39_1
                      try clear hcz39_2
                      try clear hcz39_3
                      try clear hcz39_4
                      try clear hcz39_5
                      try clear hcz45_0
                      try clear hcz45_1
                      try clear hcz45_2
                      try clear hcz45_3
                      try clear hcz45_4
                      try clear hcz45_5
                      try clear hcz80_0
                      try clear hcz80_1
                      try clear hcz80_2
                      try clear hcz80_3
                      try clear hcz80_4
                      try clear hcz80_5
                      try clear hfz11_0
                      try clear hfz11_1
                      try clear hfz11_2
                      try clear hfz11_3
                      try clear hfz11_4
                      try clear hfz11_5
                      try clear hfz23_0
                      try clear hfz23_1
                      try clear hfz23_2
                      try clear hfz23_3
                      try clear hfz23_4
                      try clear hfz23_5
                      try clear hfz25_0
                      try clear hfz25_1
                      try clear hfz25_2
                      try clear hfz25_3
                      try clear hfz25_4
                      try clear hfz25_5
                      try clear hfz35_0
                      try clear hfz35_1
                      try clear hfz35_2
                      try clear hfz35_3
                      try clear hfz35_4
                      try clear hfz35_5
                      try clear hfz39_0
                      try clear hfz39_1
                      try clear hfz39_2
                      try clear hfz39_3
                      try clear hfz39_4
                      try clear hfz39_5
                      try clear hfz45_0
                      try clear hfz45_1
                      try clear hfz45_2
                      try clear hfz45_3
                      try clear hfz45_4
                      try clear hfz45_5
                      try clear hfz80_0
                      try clear hfz80_1
                      try clear hfz80_2
                      try clear hfz80_3
                      try clear hfz80_4
                      try clear hfz80_5
                      try clear p2
                      obtain ⟨kq, x99_67, rfl, HA, HJ67, HO_8, HO_13, HO_138003, HO_138004, HO_138005, BK101, BK137, HB⟩ := hcut
                      have hl138003_67 := (Kd.R_reads' HO_138003.out).1
                      rw [hl138003_67] at HO_138003
                      (try simp only [hl138003_67])
                      (try simp only [hl138003_67] at BK101)
                      (try simp only [hl138003_67] at BK137)
                      (try simp only [hl138003_67] at HO_8)
                      (try simp only [hl138003_67] at HO_13)
                      (try simp only [hl138003_67] at HO_138004)
                      (try simp only [hl138003_67] at HO_138005)
                      have hl138004_67 := (Kd.R_reads' HO_138004.out).1
                      rw [hl138004_67] at HO_138004
                      (try simp only [hl138004_67])
                      (try simp only [hl138004_67] at BK101)
                      (try simp only [hl138004_67] at BK137)
                      (try simp only [hl138004_67] at HO_8)
                      (try simp only [hl138004_67] at HO_13)
                      (try simp only [hl138004_67] at HO_138003)
                      (try simp only [hl138004_67] at HO_138005)
                      have hl138005_67 := (Kd.R_reads' HO_138005.out).1
                      rw [hl138005_67] at HO_138005
                      (try simp only [hl138005_67])
                      (try simp only [hl138005_67] at BK101)
                      (try simp only [hl138005_67] at BK137)
                      (try simp only [hl138005_67] at HO_8)
                      (try simp only [hl138005_67] at HO_13)
                      (try simp only [hl138005_67] at HO_138003)
                      (try simp only [hl138005_67] at HO_138004)
                      cases kq with
                      | zero => exact absurd HA.out (by simp [laws_FnExactVectorOf.j1])
                      | succ kj67 =>
                        have H := HA.out
                        clear HA
                        simp only [laws_FnExactVectorOf.j1] at H
                        by_cases c91 : x99_67 = true
                        · subst c91
                          have H1 : (some false) = some r := by rw [if_pos rfl] at H; exact H
                          clear H
                          have H := H1
                          clear H1
                          exact absurd ((Option.some.inj H).trans hr_) (by decide)
                        · replace c91 := Bool.eq_false_iff.mpr c91
                          subst c91
                          have H1 : ((laws_markIntS.f kj67 t144 1).bind fun bt179 => ((laws_heldIntS.f kj67 bt179.2 1).bind fun t181 => (if t181 < 0 then (some false) else (if t181 = bt179.1 then ((laws_toSystem.f kj67 a0_0 a0_1 a0_2 l0_3 l0_4 l0_5).bind fun bt182 => ((laws_toIntS.f kj67 l1).bind fun t194 => ((laws_toIntS.f kj67 l2).bind fun t197 => ((impl_VectorOf.f kj67 bt182.1 bt182.2.1 bt182.2.2.1 bt182.2.2.2.1 bt182.2.2.2.2.1 bt182.2.2.2.2.2 t194 t197).bind fun bt200 => ((laws_eqIntS.f kj67 bt200.1 t121).bind fun t204 => (if t204 = true then (laws_FnExactVectorOf.j2 kj67 bt179.2 bt179.1 (bt200.2 != t124)) else (laws_FnExactVectorOf.j2 kj67 bt179.2 bt179.1 true))))))) else (some false))))) = some r := by rw [if_neg (show ¬ (false = true) by decide)] at H; exact H
                          clear H
                          have H := H1
                          clear H1
                          replace H := Option.bind_eq_some_iff.mp H
                          obtain ⟨⟨t179, t180⟩, A920, H⟩ := H
                          replace H : ((laws_heldIntS.f kj67 t180 1).bind fun t181 => (if t181 < 0 then (some false) else (if t181 = t179 then ((laws_toSystem.f kj67 a0_0 a0_1 a0_2 l0_3 l0_4 l0_5).bind fun bt182 => ((laws_toIntS.f kj67 l1).bind fun t194 => ((laws_toIntS.f kj67 l2).bind fun t197 => ((impl_VectorOf.f kj67 bt182.1 bt182.2.1 bt182.2.2.1 bt182.2.2.2.1 bt182.2.2.2.2.1 bt182.2.2.2.2.2 t194 t197).bind fun bt200 => ((laws_eqIntS.f kj67 bt200.1 t121).bind fun t204 => (if t204 = true then (laws_FnExactVectorOf.j2 kj67 t180 t179 (bt200.2 != t124)) else (laws_FnExactVectorOf.j2 kj67 t180 t179 true))))))) else (some false)))) = some r := H
                          have A92 := Aside0.mk A920
                          clear A920
                          replace H := Option.bind_eq_some_iff.mp H
                          obtain ⟨t181, A930, H⟩ := H
                          replace H : (if t181 < 0 then (some false) else (if t181 = t179 then ((laws_toSystem.f kj67 a0_0 a0_1 a0_2 l0_3 l0_4 l0_5).bind fun bt182 => ((laws_toIntS.f kj67 l1).bind fun t194 => ((laws_toIntS.f kj67 l2).bind fun t197 => ((impl_VectorOf.f kj67 bt182.1 bt182.2.1 bt182.2.2.1 bt182.2.2.2.1 bt182.2.2.2.2.1 bt182.2.2.2.2.2 t194 t197).bind fun bt200 => ((laws_eqIntS.f kj67 bt200.1 t121).bind fun t204 => (if t204 = true then (laws_FnExactVectorOf.j2 kj67 t180 t179 (bt200.2 != t124)) else (laws_FnExactVectorOf.j2 kj67 t180 t179 true))))))) else (some false))) = some r := H
                          have A93 := Aside0.mk A930
                          clear A930
                          by_cases c94 : t181 < 0
                          · rw [if_pos c94] at H
                            have c94b0 : decide (t181 < 0) = true := decide_eq_true c94
                            clear c94
                            exact absurd ((Option.some.inj H).trans hr_) (by decide)
                          · rw [if_neg c94] at H
                            have c94b0 : decide (t181 < 0) = false := decide_eq_false c94
                            clear c94
                            by_cases c95 : t181 = t179
                            · rw [if_pos c95] at H
                              have c95b0 : (t181 == t179) = true := beq_iff_eq.mpr c95
                              have c95b1 : (t181 != t179) = false := bne_eq_false_iff_eq.mpr c95
                              clear c95
                              replace H := Option.bind_eq_some_iff.mp H
                              obtain ⟨⟨t182, t183, t184, t185, t188, t191⟩, A960, H⟩ := H
                              replace H : ((laws_toIntS.f kj67 l1).bind fun t194 => ((laws_toIntS.f kj67 l2).bind fun t197 => ((impl_VectorOf.f kj67 t182 t183 t184 t185 t188 t191 t194 t197).bind fun bt200 => ((laws_eqIntS.f kj67 bt200.1 t121).bind fun t204 => (if t204 = true then (laws_FnExactVectorOf.j2 kj67 t180 t179 (bt200.2 != t124)) else (laws_FnExactVectorOf.j2 kj67 t180 t179 true)))))) = some r := H
                              have A96 := Aside0.mk A960
                              clear A960
                              replace H := Option.bind_eq_some_iff.mp H
                              obtain ⟨t194, A970, H⟩ := H
                              replace H : ((laws_toIntS.f kj67 l2).bind fun t197 => ((impl_VectorOf.f kj67 t182 t183 t184 t185 t188 t191 t194 t197).bind fun bt200 => ((laws_eqIntS.f kj67 bt200.1 t121).bind fun t204 => (if t204 = true then (laws_FnExactVectorOf.j2 kj67 t180 t179 (bt200.2 != t124)) else (laws_FnExactVectorOf.j2 kj67 t180 t179 true))))) = some r := H
                              have A97 := Aside0.mk A970
                              clear A970
                              replace H := Option.bind_eq_some_iff.mp H
                              obtain ⟨t197, A980, H⟩ := H
                              replace H : ((impl_VectorOf.f kj67 t182 t183 t184 t185 t188 t191 t194 t197).bind fun bt200 => ((laws_eqIntS.f kj67 bt200.1 t121).bind fun t204 => (if t204 = true then (laws_FnExactVectorOf.j2 kj67 t180 t179 (bt200.2 != t124)) else (laws_FnExactVectorOf.j2 kj67 t180 t179 true)))) = some r := H
                              have A98 := Aside0.mk A980
                              clear A980
                              replace H := Option.bind_eq_some_iff.mp H
                              obtain ⟨⟨t200, t203⟩, A990, H⟩ := H
                              replace H : ((laws_eqIntS.f kj67 t200 t121).bind fun t204 => (if t204 = true then (laws_FnExactVectorOf.j2 kj67 t180 t179 (t203 != t124)) else (laws_FnExactVectorOf.j2 kj67 t180 t179 true))) = some r := H
                              have A99 := Aside0.mk A990
                              clear A990
                              have HC100 := Aside0.mk H
                              clear H
                              obtain ⟨Ao101, co101, eo101⟩ := Kd.R_slice HO_13.out
                              subst eo101
                              go_upto_region 37 with (first | ((with_reducible refine gate_callee (f := 20) rfl ?_); refine goesL_ (some 102) rfl rfl Try.func20 (by kernel_rfl) rfl #[.slice Ao101 t144.length co101, .int .i64 1] rfl qz1_ ?_; (with_reducible refine (laws_markIntS.calls kj67 (fun k_ => some k_ = (.slice Ao101 t144.length co101 : Value).ownBlock) (.slice Ao101 t144.length co101) t144 1 t179 t180 w _ ?side1 ?side2 A92.out).mono ?_); (case side1 => repeat (first | (with_reducible first | exact HB.out | apply below_alloc | apply pw_below_drewN | apply below_drew1 | refine below_set ?_ GE101.out | refine below_set ?_ GE137.out) | exact HB.out)); (case side2 => exact Kd.R_tight rfl HO_13.out); rintro e w102 ⟨rfl, hy0, hb, hkp⟩; refine ⟨_, rfl, ?_⟩; have n0_ := Aside0.mk (Kd.R_mono (ok' := fun k_ => some k_ ≠ (.slice Ao101 t144.length co101 : Value).ownBlock) (Kd.R_keptB (HO_8.out) hkp (fun k_ hk_ hs_ => (hk_) hs_)) (fun k_ hk_ => hk_.1)); have n1_ := Aside0.mk (Kd.R_reok rfl hy0 (fun k_ e_ => HO_13.out.1 k_ e_)); have n2_ := Aside0.mk (Kd.R_mono (ok' := fun k_ => some k_ ≠ (.slice Ao41 t172.length co41 : Value).ownBlock ∧ some k_ ≠ (.slice Ao42 t173.length co42 : Value).ownBlock) (Kd.R_keptB ((Kd.R_apart' HO_138003.out (Kd.R_typed HO_13.out) (by decide))) hkp (fun k_ hk_ hs_ => (hk_.2) hs_)) (fun k_ hk_ => ⟨hk_.1.1.1, hk_.1.1.2⟩)); have n3_ := Aside0.mk (Kd.R_mono (ok' := fun k_ => some k_ ≠ (.slice Ao40 t171.length co40 : Value).ownBlock ∧ some k_ ≠ (.slice Ao42 t173.length co42 : Value).ownBlock) (Kd.R_keptB ((Kd.R_apart' HO_138004.out (Kd.R_typed HO_13.out) (by decide))) hkp (fun k_ hk_ hs_ => (hk_.2) hs_)) (fun k_ hk_ => ⟨hk_.1.1.1, hk_.1.1.2⟩)); have n4_ := Aside0.mk (Kd.R_mono (ok' := fun k_ => some k_ ≠ (.slice Ao40 t171.length co40 : Value).ownBlock ∧ some k_ ≠ (.slice Ao41 t172.length co41 : Value).ownBlock) (Kd.R_keptB ((Kd.R_apart' HO_138005.out (Kd.R_typed HO_13.out) (by decide))) hkp (fun k_ hk_ hs_ => (hk_.2) hs_)) (fun k_ hk_ => ⟨hk_.1.1.1, hk_.1.1.2⟩)); have n5_ := Aside0.mk (blk_kept (g := gb101) (o := .cells #[.int .i64 a0_0, .int .i64 a0_1, .int .i64 a0_2, .slice A0_3 l0_3.length c0_3, .slice A0_4 l0_4.length c0_4, .slice A0_5 l0_5.length c0_5] 24 (0, 0)) qz3_ hkp (fun hs_ => (fun e_ => (Kd.R_ne HO_13.out BK101.out (by decide)) e_) hs_)); have n6_ := Aside0.mk (blk_kept (g := gb137) (o := .cells #[.int .i64 t125, .int .i64 t126, .int .i64 t127, .slice Ao40 t171.length co40, .slice Ao41 t172.length co41, .slice Ao42 t173.length co42] 29 (0, 0)) qz18_ hkp (fun hs_ => (fun e_ => (Kd.R_ne HO_13.out BK137.out (by decide)) e_) hs_)); have n7_ := Aside0.mk (hb); clear HO_8; clear HO_13; clear HO_138003; clear HO_138004; clear HO_138005; clear BK101; clear BK137; clear HB; have HO_8 := n0_; have HO_13 := n1_; have HO_138003 := n2_; have HO_138004 := n3_; have HO_138005 := n4_; have BK101 := n5_; have BK137 := n6_; have HB := n7_; clear n0_ n1_ n2_ n3_ n4_ n5_ n6_ n7_; (try clear hb); (try clear hkp); (try clear hy0)) | ((with_reducible refine gate_callee (f := 21) rfl ?_); refine goesL_ (some 105) rfl rfl Try.func21 (by kernel_rfl) rfl #[.slice Ao101 t180.length co101, .int .i64 1] rfl (by (try simp only [List.map_toArray, List.map_cons, List.map_nil]); first | done | (rw [show t180.length = t144.length from (Kd.R_reads' HO_13.out).1.symm] <;> rfl) | rfl | (simp only [List.length_drop, List.length_take]; rfl)) ?_; (with_reducible refine (laws_heldIntS.calls kj67 _ _ t180 1 t181 _ ?side1 ?side2 A93.out).mono ?_); (case side1 => repeat (first | exact (Kd.R_reads' HO_13.out).2.2 | (with_reducible refine Kd.C_alloc ?_ _) | (with_reducible refine Kd.C_drewN ?_ _) | (with_reducible refine Kd.C_drew ?_))); (case side2 => rw [show t180.length = t144.length from (Kd.R_reads' HO_13.out).1.symm]; exact (Kd.R_reads' HO_13.out).2.1); rintro e w' ⟨rfl, ⟨nd, rfl⟩⟩; refine ⟨_, rfl, ?_⟩; have hnb103 := NB101_137.out; have hnc103 := NB137_101.out; have hcz104_0 : w102.cell? ⟨gb101, 0, none⟩ = some (.int .i64 a0_0) := (blk_cell BK101.out 0).trans rfl; have hcz104_1 : w102.cell? ⟨gb101, 1, none⟩ = some (.int .i64 a0_1) := (blk_cell BK101.out 1).trans rfl; have hcz104_2 : w102.cell? ⟨gb101, 2, none⟩ = some (.int .i64 a0_2) := (blk_cell BK101.out 2).trans rfl; have hcz104_3 : w102.cell? ⟨gb101, 3, none⟩ = some (.slice A0_3 l0_3.length c0_3) := (blk_cell BK101.out 3).trans rfl; have hcz104_4 : w102.cell? ⟨gb101, 4, none⟩ = some (.slice A0_4 l0_4.length c0_4) := (blk_cell BK101.out 4).trans rfl; have hcz104_5 : w102.cell? ⟨gb101, 5, none⟩ = some (.slice A0_5 l0_5.length c0_5) := (blk_cell BK101.out 5).trans rfl; have hfz104_0 := blk_frozen BK101.out 0; have hfz104_1 := blk_frozen BK101.out 1; have hfz104_2 := blk_frozen BK101.out 2; have hfz104_3 := blk_frozen BK101.out 3; have hfz104_4 := blk_frozen BK101.out 4; have hfz104_5 := blk_frozen BK101.out 5) | ((with_reducible refine gate_callee (f := 12) rfl ?_); refine goesL_ (some 113) rfl rfl Try.func12 (by kernel_rfl) rfl #[.agg #[.int .i64 a0_0, .int .i64 a0_1, .int .i64 a0_2, .slice A0_3 l0_3.length c0_3, .slice A0_4 l0_4.length c0_4, .slice A0_5 l0_5.length c0_5]] rfl qz1_ ?_; (with_reducible refine (laws_toSystem.calls kj67 a0_0 a0_1 a0_2 _ _ l0_3 _ _ l0_4 _ _ l0_5 t182 t183 t184 t185 t188 t191 _ ?side1 ?side2 ?side3 ?side4 ?side5 ?side6 A96.out).mono ?_); (case side1 => repeat (first | exact (Kd.C_below HR0_3.out qz17_) | (with_reducible refine Kd.C_alloc ?_ _) | (with_reducible refine Kd.C_drewN ?_ _) | (with_reducible refine Kd.C_drew ?_))); (case side2 => exact HC0_3.out); (case side3 => repeat (first | exact (Kd.C_below HR0_4.out qz17_) | (with_reducible refine Kd.C_alloc ?_ _) | (with_reducible refine Kd.C_drewN ?_ _) | (with_reducible refine Kd.C_drew ?_))); (case side4 => exact HC0_4.out); (case side5 => repeat (first | exact (Kd.C_below HR0_5.out qz17_) | (with_reducible refine Kd.C_alloc ?_ _) | (with_reducible refine Kd.C_drewN ?_ _) | (with_reducible refine Kd.C_drew ?_))); (case side6 => exact HC0_5.out); rintro e w105 ⟨v186, v189, v192, rfl, ho0, ho1, ho2, hb⟩; refine ⟨_, rfl, ?_⟩; have n0_ := Aside0.mk (Kd.R_below qz19_ hb); have n1_ := Aside0.mk (Kd.R_below qz22_ hb); have n2_ := Aside0.mk (Kd.R_mono (Kd.R_told (Kd.R_told (Kd.R_told (Kd.R_old qz23_ hb) (Kd.R_base ho0)) (Kd.R_base ho1)) (Kd.R_base ho2)) (fun _ h_ => h_.1)); have n3_ := Aside0.mk (Kd.R_mono (Kd.R_told (Kd.R_told (Kd.R_told (Kd.R_old qz24_ hb) (Kd.R_base ho0)) (Kd.R_base ho1)) (Kd.R_base ho2)) (fun _ h_ => h_.1)); have n4_ := Aside0.mk (Kd.R_mono (Kd.R_told (Kd.R_told (Kd.R_told (Kd.R_old qz25_ hb) (Kd.R_base ho0)) (Kd.R_base ho1)) (Kd.R_base ho2)) (fun _ h_ => h_.1)); have n5_ := Aside0.mk (Kd.R_lower (Kd.R_new' (Kd.R_new' (Kd.R_new' ho0 (Kd.R_lt qz23_)) (Kd.R_lt qz24_)) (Kd.R_lt qz25_)) (below_size qz17_)); have n6_ := Aside0.mk (Kd.R_lower (Kd.R_new' (Kd.R_new' (Kd.R_new' ho1 (Kd.R_lt qz23_)) (Kd.R_lt qz24_)) (Kd.R_lt qz25_)) (below_size qz17_)); have n7_ := Aside0.mk (Kd.R_lower (Kd.R_new' (Kd.R_new' (Kd.R_new' ho2 (Kd.R_lt qz23_)) (Kd.R_lt qz24_)) (Kd.R_lt qz25_)) (below_size qz17_)); have n8_ := Aside0.mk (blk_below (g := gb101) (o := .cells #[.int .i64 a0_0, .int .i64 a0_1, .int .i64 a0_2, .slice A0_3 l0_3.length c0_3, .slice A0_4 l0_4.length c0_4, .slice A0_5 l0_5.length c0_5] 24 (0, 0)) qz3_ hb); have n9_ := Aside0.mk (blk_below (g := gb137) (o := .cells #[.int .i64 t125, .int .i64 t126, .int .i64 t127, .slice Ao40 t171.length co40, .slice Ao41 t172.length co41, .slice Ao42 t173.length co42] 29 (0, 0)) qz18_ hb); have n10_ := Aside0.mk (below_step qz17_ hb); clear HO_8; clear HO_13; clear HO_138003; clear HO_138004; clear HO_138005; clear BK101; clear BK137; clear HB; have HO_8 := n0_; have HO_13 := n1_; have HO_138003 := n2_; have HO_138004 := n3_; have HO_138005 := n4_; have HO187 := n5_; have HO190 := n6_; have HO193 := n7_; have BK101 := n8_; have BK137 := n9_; have HB := n10_; clear n0_ n1_ n2_ n3_ n4_ n5_ n6_ n7_ n8_ n9_ n10_; (try clear hb); (try clear hb2); (try clear hk); (try clear hi); (try clear ho0); (try clear ho1); (try clear ho2)) | ((with_reducible refine gate_callee (f := 16) rfl ?_); refine goesL_ (some 115) rfl rfl Try.func16 (by kernel_rfl) rfl #[.slice A1 l1.length c1] rfl qz1_ ?_; (with_reducible refine (laws_toIntS.calls kj67 _ _ l1 t194 _ ?side1 ?side2 A97.out).mono ?_); (case side1 => repeat (first | exact (Kd.C_below HR1.out HB.out) | (with_reducible refine Kd.C_alloc ?_ _) | (with_reducible refine Kd.C_drewN ?_ _) | (with_reducible refine Kd.C_drew ?_))); (case side2 => exact HC1.out); rintro e w106 ⟨v195, rfl, ho0, hb⟩; refine ⟨_, rfl, ?_⟩; have n0_ := Aside0.mk (Kd.R_elder' qz19_ (Kd.R_base ho0) hb); have n1_ := Aside0.mk (Kd.R_elder' qz22_ (Kd.R_base ho0) hb); have n2_ := Aside0.mk (Kd.R_below qz23_ hb); have n3_ := Aside0.mk (Kd.R_below qz24_ hb); have n4_ := Aside0.mk (Kd.R_below qz25_ hb); have n5_ := Aside0.mk (Kd.R_below (by (with_reducible repeat (first | apply Kd.R_alloc | apply Kd.R_drewN | apply Kd.R_drew)); exact HO187.out) hb); have n6_ := Aside0.mk (Kd.R_below (by (with_reducible repeat (first | apply Kd.R_alloc | apply Kd.R_drewN | apply Kd.R_drew)); exact HO190.out) hb); have n7_ := Aside0.mk (Kd.R_below (by (with_reducible repeat (first | apply Kd.R_alloc | apply Kd.R_drewN | apply Kd.R_drew)); exact HO193.out) hb); have n8_ := Aside0.mk (Kd.R_lower (Kd.R_new' (Kd.R_new' ho0 (Kd.R_lt qz19_)) (Kd.R_lt qz22_)) (below_size qz17_)); have n9_ := Aside0.mk (blk_below (g := gb101) (o := .cells #[.int .i64 a0_0, .int .i64 a0_1, .int .i64 a0_2, .slice A0_3 l0_3.length c0_3, .slice A0_4 l0_4.length c0_4, .slice A0_5 l0_5.length c0_5] 24 (0, 0)) qz3_ hb); have n10_ := Aside0.mk (blk_below (g := gb137) (o := .cells #[.int .i64 t125, .int .i64 t126, .int .i64 t127, .slice Ao40 t171.length co40, .slice Ao41 t172.length co41, .slice Ao42 t173.length co42] 29 (0, 0)) qz18_ hb); have n11_ := Aside0.mk (below_step qz17_ hb); clear HO_8; clear HO_13; clear HO_138003; clear HO_138004; clear HO_138005; clear HO187; clear HO190; clear HO193; clear BK101; clear BK137; clear HB; have HO_8 := n0_; have HO_13 := n1_; have HO_138003 := n2_; have HO_138004 := n3_; have HO_138005 := n4_; have HO187 := n5_; have HO190 := n6_; have HO193 := n7_; have HO196 := n8_; have BK101 := n9_; have BK137 := n10_; have HB := n11_; clear n0_ n1_ n2_ n3_ n4_ n5_ n6_ n7_ n8_ n9_ n10_ n11_; (try clear hb); (try clear hb2); (try clear hk); (try clear hi); (try clear ho0)) | ((with_reducible refine gate_callee (f := 16) rfl ?_); refine goesL_ (some 117) rfl rfl Try.func16 (by kernel_rfl) rfl #[.slice A2 l2.length c2] rfl qz1_ ?_; (with_reducible refine (laws_toIntS.calls kj67 _ _ l2 t197 _ ?side1 ?side2 A98.out).mono ?_); (case side1 => repeat (first | exact (Kd.C_below HR2.out HB.out) | (with_reducible refine Kd.C_alloc ?_ _) | (with_reducible refine Kd.C_drewN ?_ _) | (with_reducible refine Kd.C_drew ?_))); (case side2 => exact HC2.out); rintro e w107 ⟨v198, rfl, ho0, hb⟩; refine ⟨_, rfl, ?_⟩; have n0_ := Aside0.mk (Kd.R_elder' qz19_ (Kd.R_base ho0) hb); have n1_ := Aside0.mk (Kd.R_elder' qz22_ (Kd.R_base ho0) hb); have n2_ := Aside0.mk (Kd.R_below qz23_ hb); have n3_ := Aside0.mk (Kd.R_below qz24_ hb); have n4_ := Aside0.mk (Kd.R_below qz25_ hb); have n5_ := Aside0.mk (Kd.R_below (by (with_reducible repeat (first | apply Kd.R_alloc | apply Kd.R_drewN | apply Kd.R_drew)); exact HO187.out) hb); have n6_ := Aside0.mk (Kd.R_below (by (with_reducible repeat (first | apply Kd.R_alloc | apply Kd.R_drewN | apply Kd.R_drew)); exact HO190.out) hb); have n7_ := Aside0.mk (Kd.R_below (by (with_reducible repeat (first | apply Kd.R_alloc | apply Kd.R_drewN | apply Kd.R_drew)); exact HO193.out) hb); have n8_ := Aside0.mk (Kd.R_elder' (by (with_reducible repeat (first | apply Kd.R_alloc | apply Kd.R_drewN | apply Kd.R_drew)); exact HO196.out) (Kd.R_base ho0) hb); have n9_ := Aside0.mk (Kd.R_lower (Kd.R_new' (Kd.R_new' (Kd.R_new' ho0 (Kd.R_lt qz19_)) (Kd.R_lt qz22_)) (Kd.R_lt (by (with_reducible repeat (first | apply Kd.R_alloc | apply Kd.R_drewN | apply Kd.R_drew)); exact HO196.out))) (below_size qz17_)); have n10_ := Aside0.mk (blk_below (g := gb101) (o := .cells #[.int .i64 a0_0, .int .i64 a0_1, .int .i64 a0_2, .slice A0_3 l0_3.length c0_3, .slice A0_4 l0_4.length c0_4, .slice A0_5 l0_5.length c0_5] 24 (0, 0)) qz3_ hb); have n11_ := Aside0.mk (blk_below (g := gb137) (o := .cells #[.int .i64 t125, .int .i64 t126, .int .i64 t127, .slice Ao40 t171.length co40, .slice Ao41 t172.length co41, .slice Ao42 t173.length co42] 29 (0, 0)) qz18_ hb); have n12_ := Aside0.mk (below_step qz17_ hb); clear HO_8; clear HO_13; clear HO_138003; clear HO_138004; clear HO_138005; clear HO187; clear HO190; clear HO193; clear HO196; clear BK101; clear BK137; clear HB; have HO_8 := n0_; have HO_13 := n1_; have HO_138003 := n2_; have HO_138004 := n3_; have HO_138005 := n4_; have HO187 := n5_; have HO190 := n6_; have HO193 := n7_; have HO196 := n8_; have HO199 := n9_; have BK101 := n10_; have BK137 := n11_; have HB := n12_; clear n0_ n1_ n2_ n3_ n4_ n5_ n6_ n7_ n8_ n9_ n10_ n11_ n12_; (try clear hb); (try clear hb2); (try clear hk); (try clear hi); (try clear ho0); obtain ⟨Ao108, co108, eo108⟩ := Kd.R_slice HO187.out; subst eo108; obtain ⟨Ao109, co109, eo109⟩ := Kd.R_slice HO190.out; subst eo109; obtain ⟨Ao110, co110, eo110⟩ := Kd.R_slice HO193.out; subst eo110; obtain ⟨Ao111, co111, eo111⟩ := Kd.R_slice HO196.out; subst eo111; obtain ⟨Ao112, co112, eo112⟩ := Kd.R_slice HO199.out; subst eo112) | ((with_reducible refine gate_callee (f := 17) rfl ?_); refine goesL_ (some 118) rfl rfl Try.func17 (by kernel_rfl) rfl #[.agg #[.int .i64 t182, .int .i64 t183, .int .i64 t184, .slice Ao108 t185.length co108, .slice Ao109 t188.length co109, .slice Ao110 t191.length co110], .slice Ao111 t194.length co111, .slice Ao112 t197.length co112] rfl qz1_ ?_; (with_reducible refine (impl_VectorOf.calls kj67 t182 t183 t184 _ _ t185 _ _ t188 _ _ t191 _ _ t194 _ _ t197 t200 t203 _ ?side1 ?side2 ?side3 ?side4 ?side5 ?side6 ?side7 ?side8 ?side9 ?side10 A99.out).mono ?_); (case side1 => repeat (first | exact (Kd.R_reads' HO187.out).2.2 | (with_reducible refine Kd.C_alloc ?_ _) | (with_reducible refine Kd.C_drewN ?_ _) | (with_reducible refine Kd.C_drew ?_))); (case side2 => exact (Kd.R_reads' HO187.out).2.1); (case side3 => repeat (first | exact (Kd.R_reads' HO190.out).2.2 | (with_reducible refine Kd.C_alloc ?_ _) | (with_reducible refine Kd.C_drewN ?_ _) | (with_reducible refine Kd.C_drew ?_))); (case side4 => exact (Kd.R_reads' HO190.out).2.1); (case side5 => repeat (first | exact (Kd.R_reads' HO193.out).2.2 | (with_reducible refine Kd.C_alloc ?_ _) | (with_reducible refine Kd.C_drewN ?_ _) | (with_reducible refine Kd.C_drew ?_))); (case side6 => exact (Kd.R_reads' HO193.out).2.1); (case side7 => repeat (first | exact (Kd.R_reads' HO196.out).2.2 | (with_reducible refine Kd.C_alloc ?_ _) | (with_reducible refine Kd.C_drewN ?_ _) | (with_reducible refine Kd.C_drew ?_))); (case side8 => exact (Kd.R_reads' HO196.out).2.1); (case side9 => repeat (first | exact (Kd.R_reads' HO199.out).2.2 | (with_reducible refine Kd.C_alloc ?_ _) | (with_reducible refine Kd.C_drewN ?_ _) | (with_reducible refine Kd.C_drew ?_))); (case side10 => exact (Kd.R_reads' HO199.out).2.1); rintro e w113 ⟨v201, rfl, ho0, hb⟩; refine ⟨_, rfl, ?_⟩; have n0_ := Aside0.mk (Kd.R_elder' qz19_ (Kd.R_base ho0) hb); have n1_ := Aside0.mk (Kd.R_elder' qz22_ (Kd.R_base ho0) hb); have n2_ := Aside0.mk (Kd.R_below qz23_ hb); have n3_ := Aside0.mk (Kd.R_below qz24_ hb); have n4_ := Aside0.mk (Kd.R_below qz25_ hb); have n5_ := Aside0.mk (Kd.R_below (by (with_reducible repeat (first | apply Kd.R_alloc | apply Kd.R_drewN | apply Kd.R_drew)); exact HO187.out) hb); have n6_ := Aside0.mk (Kd.R_below (by (with_reducible repeat (first | apply Kd.R_alloc | apply Kd.R_drewN | apply Kd.R_drew)); exact HO190.out) hb); have n7_ := Aside0.mk (Kd.R_below (by (with_reducible repeat (first | apply Kd.R_alloc | apply Kd.R_drewN | apply Kd.R_drew)); exact HO193.out) hb); have n8_ := Aside0.mk (Kd.R_elder' (by (with_reducible repeat (first | apply Kd.R_alloc | apply Kd.R_drewN | apply Kd.R_drew)); exact HO196.out) (Kd.R_base ho0) hb); have n9_ := Aside0.mk (Kd.R_elder' (by (with_reducible repeat (first | apply Kd.R_alloc | apply Kd.R_drewN | apply Kd.R_drew)); exact HO199.out) (Kd.R_base ho0) hb); have n10_ := Aside0.mk (Kd.R_lower (Kd.R_new' (Kd.R_new' (Kd.R_new' (Kd.R_new' ho0 (Kd.R_lt qz19_)) (Kd.R_lt qz22_)) (Kd.R_lt (by (with_reducible repeat (first | apply Kd.R_alloc | apply Kd.R_drewN | apply Kd.R_drew)); exact HO196.out))) (Kd.R_lt (by (with_reducible repeat (first | apply Kd.R_alloc | apply Kd.R_drewN | apply Kd.R_drew)); exact HO199.out))) (below_size qz17_)); have n11_ := Aside0.mk (blk_below (g := gb101) (o := .cells #[.int .i64 a0_0, .int .i64 a0_1, .int .i64 a0_2, .slice A0_3 l0_3.length c0_3, .slice A0_4 l0_4.length c0_4, .slice A0_5 l0_5.length c0_5] 24 (0, 0)) qz3_ hb); have n12_ := Aside0.mk (blk_below (g := gb137) (o := .cells #[.int .i64 t125, .int .i64 t126, .int .i64 t127, .slice Ao40 t171.length co40, .slice Ao41 t172.length co41, .slice Ao42 t173.length co42] 29 (0, 0)) qz18_ hb); have n13_ := Aside0.mk (below_step qz17_ hb); clear HO_8; clear HO_13; clear HO_138003; clear HO_138004; clear HO_138005; clear HO187; clear HO190; clear HO193; clear HO196; clear HO199; clear BK101; clear BK137; clear HB; have HO_8 := n0_; have HO_13 := n1_; have HO_138003 := n2_; have HO_138004 := n3_; have HO_138005 := n4_; have HO187 := n5_; have HO190 := n6_; have HO193 := n7_; have HO196 := n8_; have HO199 := n9_; have HO202 := n10_; have BK101 := n11_; have BK137 := n12_; have HB := n13_; clear n0_ n1_ n2_ n3_ n4_ n5_ n6_ n7_ n8_ n9_ n10_ n11_ n12_ n13_; (try clear hb); (try clear hb2); (try clear hk); (try clear hi); (try clear ho0)))
                              (try simp only [Act.put, List.setIfInBounds_toArray, List.set_cons_zero, List.set_cons_succ])
                              go_cut [129] (fun v129 wc => ∃ (kq : Nat) (x129_99 : Bool), v129 = .bool x129_99 ∧ Aside0 (laws_FnExactVectorOf.j2 kq t180 t179 x129_99 = some r) ∧ Aside0 (kq ≤ kj67) ∧ Aside0 (Kd.R (Kd.int .i64) 3 wc w.heap.size (fun _ => True) (.slice Ao101 t144.length co101) t180) ∧ Aside0 (Kd.R k53 53 wc w.heap.size (fun k_ => some k_ ≠ ((.slice Ao41 t172.length co41) : Value).ownBlock ∧ some k_ ≠ ((.slice Ao42 t173.length co42) : Value).ownBlock) (.slice Ao40 t171.length co40) t171) ∧ Aside0 (Kd.R k53 53 wc w.heap.size (fun k_ => some k_ ≠ ((.slice Ao40 t171.length co40) : Value).ownBlock ∧ some k_ ≠ ((.slice Ao42 t173.length co42) : Value).ownBlock) (.slice Ao41 t172.length co41) t172) ∧ Aside0 (Kd.R k53 53 wc w.heap.size (fun k_ => some k_ ≠ ((.slice Ao40 t171.length co40) : Value).ownBlock ∧ some k_ ≠ ((.slice Ao41 t172.length co41) : Value).ownBlock) (.slice Ao42 t173.length co42) t173) ∧ Aside0 (wc.heap[gb101]? = some (.cells #[.int .i64 a0_0, .int .i64 a0_1, .int .i64 a0_2, (.slice A0_3 l0_3.length c0_3), (.slice A0_4 l0_4.length c0_4), (.slice A0_5 l0_5.length c0_5)] 24 (0, 0))) ∧ Aside0 (wc.heap[gb137]? = some (.cells #[.int .i64 t125, .int .i64 t126, .int .i64 t127, (.slice Ao40 t171.length co40), (.slice Ao41 t172.length co41), (.slice Ao42 t173.length co42)] 29 (0, 0))) ∧ Aside0 (Below w.heap.size w wc))
                              case first =>
                                have H := HC100.out
                                clear HC100
                                replace H := Option.bind_eq_some_iff.mp H
                                obtain ⟨t204, A1140, H⟩ := H
                                replace H : (if t204 = true then (laws_FnExactVectorOf.j2 kj67 t180 t179 (t203 != t124)) else (laws_FnExactVectorOf.j2 kj67 t180 t179 true)) = some r := H
                                have A114 := Aside0.mk A1140
                                clear A1140
                                by_cases c115 : t204 = true
                                · subst c115
                                  have H1 : (laws_FnExactVectorOf.j2 kj67 t180 t179 (t203 != t124)) = some r := by rw [if_pos rfl] at H; exact H
                                  clear H
                                  have H := H1
                                  clear H1
                                  have H' := Aside0.mk H
                                  clear H
                                  obtain ⟨Ao116, co116, eo116⟩ := Kd.R_slice HO202.out
                                  subst eo116
                                  obtain ⟨Ao117, co117, eo117⟩ := Kd.R_slice HO_8.out
                                  subst eo117
                                  go_wp2_with (first | ((with_reducible refine gate_callee (f := 18) rfl ?_); refine goesL_ (some 123) rfl rfl Try.func18 (by kernel_rfl) rfl #[.slice Ao116 t200.length co116, .slice Ao117 t121.length co117] rfl qz1_ ?_; (with_reducible refine (laws_eqIntS.calls kj67 _ _ t200 _ _ t121 true _ ?side1 ?side2 ?side3 ?side4 A114.out).mono ?_); (case side1 => repeat (first | exact (Kd.R_reads' HO202.out).2.2 | (with_reducible refine Kd.C_alloc ?_ _) | (with_reducible refine Kd.C_drewN ?_ _) | (with_reducible refine Kd.C_drew ?_))); (case side2 => exact (Kd.R_reads' HO202.out).2.1); (case side3 => repeat (first | exact (Kd.R_reads' HO_8.out).2.2 | (with_reducible refine Kd.C_alloc ?_ _) | (with_reducible refine Kd.C_drewN ?_ _) | (with_reducible refine Kd.C_drew ?_))); (case side4 => exact (Kd.R_reads' HO_8.out).2.1); rintro e w' ⟨rfl, ⟨nd, rfl⟩⟩; refine ⟨_, rfl, ?_⟩))
                                  go_meet
                                  case rel => exact ⟨_, ((t203 != t124)), qz7_, H', ⟨by have := HJ20.out; have := HJ67.out; first | omega | exact Nat.le_refl _⟩, ⟨by (try simp only [hl138003_67]); (try simp only [hl138004_67]); (try simp only [hl138005_67]); (with_reducible repeat (first | apply Kd.R_alloc | apply Kd.R_drewN | apply Kd.R_drew)); exact Kd.R_mono HO_13.out (fun _ hk => trivial)⟩, ⟨by (try simp only [hl138003_67]); (try simp only [hl138004_67]); (try simp only [hl138005_67]); (with_reducible repeat (first | apply Kd.R_alloc | apply Kd.R_drewN | apply Kd.R_drew)); exact Kd.R_mono HO_138003.out (fun _ hk => ⟨hk.1.1.1.1, hk.1.1.1.2⟩)⟩, ⟨by (try simp only [hl138003_67]); (try simp only [hl138004_67]); (try simp only [hl138005_67]); (with_reducible repeat (first | apply Kd.R_alloc | apply Kd.R_drewN | apply Kd.R_drew)); exact Kd.R_mono HO_138004.out (fun _ hk => ⟨hk.1.1.1.1, hk.1.1.1.2⟩)⟩, ⟨by (try simp only [hl138003_67]); (try simp only [hl138004_67]); (try simp only [hl138005_67]); (with_reducible repeat (first | apply Kd.R_alloc | apply Kd.R_drewN | apply Kd.R_drew)); exact Kd.R_mono HO_138005.out (fun _ hk => ⟨hk.1.1.1.1, hk.1.1.1.2⟩)⟩, ⟨by (try simp only [hl138003_67]); (try simp only [hl138004_67]); (try simp only [hl138005_67]); (with_reducible repeat (first | refine blk_drewN ?_ _ | refine blk_drew ?_ | refine blk_alloc ?_ _)); exact BK101.out⟩, ⟨by (try simp only [hl138003_67]); (try simp only [hl138004_67]); (try simp only [hl138005_67]); (with_reducible repeat (first | refine blk_drewN ?_ _ | refine blk_drew ?_ | refine blk_alloc ?_ _)); exact BK137.out⟩, ⟨by repeat (first | (with_reducible first | exact HB.out | apply below_alloc | apply pw_below_drewN | apply below_drew1 | refine below_set ?_ GE101.out | refine below_set ?_ GE137.out) | exact HB.out)⟩⟩
                                · replace c115 := Bool.eq_false_iff.mpr c115
                                  subst c115
                                  have H1 : (laws_FnExactVectorOf.j2 kj67 t180 t179 true) = some r := by rw [if_neg (show ¬ (false = true) by decide)] at H; exact H
                                  clear H
                                  have H := H1
                                  clear H1
                                  have H' := Aside0.mk H
                                  clear H
                                  obtain ⟨Ao118, co118, eo118⟩ := Kd.R_slice HO202.out
                                  subst eo118
                                  obtain ⟨Ao119, co119, eo119⟩ := Kd.R_slice HO_8.out
                                  subst eo119
                                  go_wp2_with (first | ((with_reducible refine gate_callee (f := 18) rfl ?_); refine goesL_ (some 123) rfl rfl Try.func18 (by kernel_rfl) rfl #[.slice Ao118 t200.length co118, .slice Ao119 t121.length co119] rfl qz1_ ?_; (with_reducible refine (laws_eqIntS.calls kj67 _ _ t200 _ _ t121 false _ ?side1 ?side2 ?side3 ?side4 A114.out).mono ?_); (case side1 => repeat (first | exact (Kd.R_reads' HO202.out).2.2 | (with_reducible refine Kd.C_alloc ?_ _) | (with_reducible refine Kd.C_drewN ?_ _) | (with_reducible refine Kd.C_drew ?_))); (case side2 => exact (Kd.R_reads' HO202.out).2.1); (case side3 => repeat (first | exact (Kd.R_reads' HO_8.out).2.2 | (with_reducible refine Kd.C_alloc ?_ _) | (with_reducible refine Kd.C_drewN ?_ _) | (with_reducible refine Kd.C_drew ?_))); (case side4 => exact (Kd.R_reads' HO_8.out).2.1); rintro e w' ⟨rfl, ⟨nd, rfl⟩⟩; refine ⟨_, rfl, ?_⟩))
                                  go_meet
                                  case rel => exact ⟨_, (true), qz7_, H', ⟨by have := HJ20.out; have := HJ67.out; first | omega | exact Nat.le_refl _⟩, ⟨by (try simp only [hl138003_67]); (try simp only [hl138004_67]); (try simp only [hl138005_67]); (with_reducible repeat (first | apply Kd.R_alloc | apply Kd.R_drewN | apply Kd.R_drew)); exact Kd.R_mono HO_13.out (fun _ hk => trivial)⟩, ⟨by (try simp only [hl138003_67]); (try simp only [hl138004_67]); (try simp only [hl138005_67]); (with_reducible repeat (first | apply Kd.R_alloc | apply Kd.R_drewN | apply Kd.R_drew)); exact Kd.R_mono HO_138003.out (fun _ hk => ⟨hk.1.1.1.1, hk.1.1.1.2⟩)⟩, ⟨by (try simp only [hl138003_67]); (try simp only [hl138004_67]); (try simp only [hl138005_67]); (with_reducible repeat (first | apply Kd.R_alloc | apply Kd.R_drewN | apply Kd.R_drew)); exact Kd.R_mono HO_138004.out (fun _ hk => ⟨hk.1.1.1.1, hk.1.1.1.2⟩)⟩, ⟨by (try simp only [hl138003_67]); (try simp only [hl138004_67]); (try simp only [hl138005_67]); (with_reducible repeat (first | apply Kd.R_alloc | apply Kd.R_drewN | apply Kd.R_drew)); exact Kd.R_mono HO_138005.out (fun _ hk => ⟨hk.1.1.1.1, hk.1.1.1.2⟩)⟩, ⟨by (try simp only [hl138003_67]); (try simp only [hl138004_67]); (try simp only [hl138005_67]); (with_reducible repeat (first | refine blk_drewN ?_ _ | refine blk_drew ?_ | refine blk_alloc ?_ _)); exact BK101.out⟩, ⟨by (try simp only [hl138003_67]); (try simp only [hl138004_67]); (try simp only [hl138005_67]); (with_reducible repeat (first | refine blk_drewN ?_ _ | refine blk_drew ?_ | refine blk_alloc ?_ _)); exact BK137.out⟩, ⟨by repeat (first | (with_reducible first | exact HB.out | apply below_alloc | apply pw_below_drewN | apply below_drew1 | refine below_set ?_ GE101.out | refine below_set ?_ GE137.out) | exact HB.out)⟩⟩
                              case rest =>
                                clear HC100
                                try clear c1
                                try clear c2
                                try clear p2
                                try clear c3
                                try clear c4
                                try clear c4b0
                                try clear c4b1
                                try clear c5
                                try clear c6
                                try clear c6b0
                                try clear c6b1
                                try clear c7
                                try clear c8
                                try clear c9
                                try clear c9b0
                                try clear c10
                                try clear c11
                                try clear c12
                                try clear c14
                                try clear c15
                                try clear c16
                                try clear c17
                                try clear c18
                                try clear c19
                                try clear c20
                                try clear c21
                                try clear c38
                                try clear c50
                                try clear c55
                                try clear c58
                                try clear c61
                                try clear c64
                                try clear c79
                                try clear c84
                                try clear c84b0
                                try clear c86
                                try clear c91
                                try clear c94
                                try clear c94b0
                                try clear c95
                                try clear c95b0
                                try clear c95b1
                                try clear c103
                                try clear c115
                                try clear hcz104_0
                                try clear hcz104_1
                                try clear hcz104_2
                                try clear hcz104_3
                                try clear hcz104_4
                                try clear hcz104_5
                                try clear hcz11_0
                                try clear hcz11_1
                                try clear hcz11_2
                                try clear hcz11_3
                                try clear hcz11_4
                                try clear hcz11_5
                                try clear hcz23_0
                                try clear hcz23_1
                                try clear hcz23_2
                                try clear hcz23_3
                                try clear hcz23_4
                                try clear hcz23_5
                                try clear hcz25_0
                                try clear hcz25_1
                                try clear hcz25_2
                                try clear hcz25_3
                                try clear hcz25_4
                                try clear hcz25_5
                                try clear hcz35_0
                                try clear hcz35_1
                                try clear hcz35_2
                                try clear hcz35_3
                                try clear hcz35_4
                                try clear hcz35_5
                                try clear hcz39_0
                                try clear hcz39_1
                                try clear hcz39_2
                                try clear hcz39_3
                                try clear hcz39_4
                                try clear hcz39_5
                                try clear hcz45_0
                                try clear hcz45_1
                                try clear hcz45_2
                                try clear hcz45_3
                                try clear hcz45_4
                                try clear hcz45_5
                                try clear hcz80_0
                                try clear hcz80_1
                                try clear hcz80_2
                                try clear hcz80_3
                                try clear hcz80_4
                                try clear hcz80_5
                                try clear hfz104_0
                                try clear hfz104_1
                                try clear hfz104_2
                                try clear hfz104_3
                                try clear hfz104_4
                                try clear hfz104_5
                                try clear hfz11_0
                                try clear hfz11_1
                                try clear hfz11_2
                                try clear hfz11_3
                                try clear hfz11_4
                                try clear hfz11_5
                                try clear hfz23_0
                                try clear hfz23_1
                                try clear hfz23_2
                                try clear hfz23_3
                                try clear hfz23_4
                                try clear hfz23_5
                                try clear hfz25_0
                                try clear hfz25_1
                                try clear hfz25_2
                                try clear hfz25_3
                                try clear hfz25_4
                                try clear hfz25_5
                                try clear hfz35_0
                                try clear hfz35_1
                                try clear hfz35_2
                                try clear hfz35_3
                                try clear hfz35_4
                                try clear hfz35_5
                                try clear hfz39_0
                                try clear hfz39_1
                                try clear hfz39_2
                                try clear hfz39_3
                                try clear hfz39_4
                                try clear hfz39_5
                                try clear hfz45_0
                                try clear hfz45_1
                                try clear hfz45_2
                                try clear hfz45_3
                                try clear hfz45_4
                                try clear hfz45_5
                                try clear hfz80_0
                                try clear hfz80_1
                                try clear hfz80_2
                                try clear hfz80_3
                                try clear hfz80_4
                                try clear hfz80_5
                                try clear p2
                                obtain ⟨kq, x129_99, rfl, HA, HJ99, HO_13, HO_138003, HO_138004, HO_138005, BK101, BK137, HB⟩ := hcut
                                have hl13_99 := (Kd.R_reads' HO_13.out).1
                                rw [hl13_99] at HO_13
                                (try simp only [hl13_99])
                                (try simp only [hl13_99] at BK101)
                                (try simp only [hl13_99] at BK137)
                                (try simp only [hl13_99] at HO_138003)
                                (try simp only [hl13_99] at HO_138004)
                                (try simp only [hl13_99] at HO_138005)
                                cases kq with
                                | zero => exact absurd HA.out (by simp [laws_FnExactVectorOf.j2])
                                | succ kj99 =>
                                  have H := HA.out
                                  clear HA
                                  simp only [laws_FnExactVectorOf.j2] at H
                                  by_cases c120 : x129_99 = true
                                  · subst c120
                                    have H1 : (some false) = some r := by rw [if_pos rfl] at H; exact H
                                    clear H
                                    have H := H1
                                    clear H1
                                    exact absurd ((Option.some.inj H).trans hr_) (by decide)
                                  · replace c120 := Bool.eq_false_iff.mpr c120
                                    subst c120
                                    have H1 : ((laws_heldIntS.f kj99 t180 1).bind fun t205 => (if t205 < 0 then (some false) else (if t205 = t179 then (some true) else (some false)))) = some r := by rw [if_neg (show ¬ (false = true) by decide)] at H; exact H
                                    clear H
                                    have H := H1
                                    clear H1
                                    replace H := Option.bind_eq_some_iff.mp H
                                    obtain ⟨t205, A1210, H⟩ := H
                                    replace H : (if t205 < 0 then (some false) else (if t205 = t179 then (some true) else (some false))) = some r := H
                                    have A121 := Aside0.mk A1210
                                    clear A1210
                                    by_cases c122 : t205 < 0
                                    · rw [if_pos c122] at H
                                      have c122b0 : decide (t205 < 0) = true := decide_eq_true c122
                                      clear c122
                                      exact absurd ((Option.some.inj H).trans hr_) (by decide)
                                    · rw [if_neg c122] at H
                                      have c122b0 : decide (t205 < 0) = false := decide_eq_false c122
                                      clear c122
                                      by_cases c123 : t205 = t179
                                      · rw [if_pos c123] at H
                                        have c123b0 : (t205 == t179) = true := beq_iff_eq.mpr c123
                                        have c123b1 : (t205 != t179) = false := bne_eq_false_iff_eq.mpr c123
                                        clear c123
                                        obtain rfl := Option.some.inj H
                                        go_wp2_with (first | ((with_reducible refine gate_callee (f := 21) rfl ?_); refine goesL_ (some 132) rfl rfl Try.func21 (by kernel_rfl) rfl #[.slice Ao101 t180.length co101, .int .i64 1] rfl qz1_ ?_; (with_reducible refine (laws_heldIntS.calls kj99 _ _ t180 1 t205 _ ?side1 ?side2 A121.out).mono ?_); (case side1 => repeat (first | exact (Kd.R_reads' HO_13.out).2.2 | (with_reducible refine Kd.C_alloc ?_ _) | (with_reducible refine Kd.C_drewN ?_ _) | (with_reducible refine Kd.C_drew ?_))); (case side2 => exact (Kd.R_reads' HO_13.out).2.1); rintro e w' ⟨rfl, ⟨nd, rfl⟩⟩; refine ⟨_, rfl, ?_⟩))
                                        go_ret
                                        exact ⟨by first | rfl | (simp [errW_none, errW_some] <;> rfl) | (simp [*, errW_none, errW_some] <;> rfl), by repeat (first | (with_reducible first | exact HB.out | apply below_alloc | apply pw_below_drewN | apply below_drew1 | refine below_set ?_ GE101.out | refine below_set ?_ GE137.out) | exact HB.out)⟩
                                      · rw [if_neg c123] at H
                                        have c123b0 : (t205 == t179) = false := beq_eq_false_iff_ne.mpr c123
                                        have c123b1 : (t205 != t179) = true := bne_iff_ne.mpr c123
                                        exact absurd ((Option.some.inj H).trans hr_) (by decide)
                            · rw [if_neg c95] at H
                              have c95b0 : (t181 == t179) = false := beq_eq_false_iff_ne.mpr c95
                              have c95b1 : (t181 != t179) = true := bne_iff_ne.mpr c95
                              exact absurd ((Option.some.inj H).trans hr_) (by decide)
                  · replace c64 := Bool.eq_false_iff.mpr c64
                    subst c64
                    have H1 : (some false) = some r := by rw [if_neg (show ¬ (false = true) by decide)] at H; exact H
                    clear H
                    have H := H1
                    clear H1
                    exact absurd ((Option.some.inj H).trans hr_) (by decide)
                · replace c61 := Bool.eq_false_iff.mpr c61
                  subst c61
                  have H1 : (some false) = some r := by rw [if_neg (show ¬ (false = true) by decide)] at H; exact H
                  clear H
                  have H := H1
                  clear H1
                  exact absurd ((Option.some.inj H).trans hr_) (by decide)
              · replace c58 := Bool.eq_false_iff.mpr c58
                subst c58
                have H1 : (some false) = some r := by rw [if_neg (show ¬ (false = true) by decide)] at H; exact H
                clear H
                have H := H1
                clear H1
                exact absurd ((Option.some.inj H).trans hr_) (by decide)

end Go.Proofs.Ytekijbcblajjbaa.PT
end
section
/- Arguments that are read as data have the kinds' own form: for each kind, compositionally. Own text, for every seat (Ytekijbcblajjbaa: the seat's name). -/
namespace Go.Proofs.YtekijbcblajjbaaO
open Go.RowKit Go.ChangeShapes Go.WideShapes Go.ChangeAt Go.Proofs.YtekijbcblajjbaaW.PrintWords

/-- What is read as data of type T is of the kind d, and good. -/
def Opens {α : Type} {H : Type} (enc : TypeId × Value → H) (P : Program) (w : World) (T : TypeId) (d : Kd α) (good : α → Prop) : Prop :=
  ∀ (fuel : Nat) (cs : List Value) (x : DataW H × List MemPlace), DataW.trod enc P w 0 (fun _ => true) true fuel T cs = some x → ∃ a, d.K w a cs ∧ good a

/-- What is read as a run of fields of these types (each with its cells) is of the kind d, and good. -/
def OpensSeq {α : Type} {H : Type} (enc : TypeId × Value → H) (P : Program) (w : World) (fs : List (TypeId × Nat)) (d : Kd α) (good : α → Prop) : Prop :=
  ∀ (fuel : Nat) (cs : List Value), cs.length = (fs.map (·.2)).sum → (∀ (j : Nat) (T n : Nat), fs[j]? = some (T, n) → ∃ x, DataW.trod enc P w 0 (fun _ => true) true fuel T ((cs.drop ((fs.take j).map (·.2)).sum).take n) = some x) → ∃ a, d.K w a cs ∧ good a

section
variable {H : Type} {enc : TypeId × Value → H} {P : Program} {w : World}

def IntGood (k : IntKind) (a : Int) : Prop := (Lit.int k a).wf = true
def StrGood (a : ByteArray) : Prop := a.size ≤ 9223372036854775807
def ListGood {α : Type} (g : α → Prop) (l : List α) : Prop := l.length ≤ 9223372036854775807 ∧ ∀ x ∈ l, g x

theorem opens_int {T : TypeId} {k : IntKind} (ht : P.underlying T = some (.int k)) : Opens enc P w T (Kd.int k) (IntGood k) := by
  intro fuel cs x h
  obtain ⟨n, rfl, _, hw⟩ := DataW.trod_int ht h
  exact ⟨n, rfl, hw⟩
theorem opens_bool {T : TypeId} (ht : P.underlying T = some .bool) : Opens enc P w T Kd.bool (fun _ => True) := by
  intro fuel cs x h
  obtain ⟨n, rfl, _⟩ := DataW.trod_bool ht h
  exact ⟨n, rfl, trivial⟩
theorem opens_string {T : TypeId} (ht : P.underlying T = some .string) : Opens enc P w T Kd.string StrGood := by
  intro fuel cs x h
  obtain ⟨s, rfl, _, hs⟩ := DataW.trod_string ht h
  exact ⟨s, rfl, by unfold StrGood; unfold maxLen at hs; omega⟩

theorem choose_list {α : Type} {n : Nat} {p : Nat → α → Prop} (h : ∀ i, i < n → ∃ a, p i a) : ∃ l : List α, l.length = n ∧ ∀ i a, l[i]? = some a → p i a := by
  induction n with
  | zero => exact ⟨[], rfl, fun i a hi => by simp at hi⟩
  | succ n ih =>
    obtain ⟨l, hl, hp⟩ := ih (fun i hi => h i (by omega))
    obtain ⟨a, ha⟩ := h n (by omega)
    refine ⟨l ++ [a], by simp [hl], fun i b hi => ?_⟩
    rcases Nat.lt_or_ge i l.length with hlt | hge
    · rw [List.getElem?_append_left hlt] at hi
      exact hp i b hi
    · rw [List.getElem?_append_right hge] at hi
      have : i - l.length = 0 := by
        rcases Nat.eq_zero_or_pos (i - l.length) with h0 | h0
        · exact h0
        · rw [List.getElem?_eq_none (by simp; omega)] at hi; simp at hi
      rw [this] at hi
      simp at hi
      subst hi
      have : i = n := by omega
      rw [this]
      exact ha

theorem opens_slice {α : Type} {d : Kd α} {good : α → Prop} {T e : TypeId} (ht : P.underlying T = some (.slice e)) (hc : P.cellsOf e = d.sz) (ho : Opens enc P w e d good) : Opens enc P w T (Kd.slice e d) (ListGood good) := by
  intro fuel cs x h
  rcases Deep.open_slice ht h with ⟨rfl, _⟩ | ⟨a, len, cap, m, n, D, Pl, rfl, _, hl, hm, hmm, _, hx⟩
  · exact ⟨[], ⟨none, 0, rfl, Nat.le_refl _, ⟨rfl, by simp, fun h0 => by simp at h0⟩⟩, ⟨by simp, fun x hx => by simp at hx⟩⟩
  · have hle : len ≤ m := by rw [hmm]; split <;> omega
    have hex : ∀ i, i < len → ∃ b : α, (∃ c, c.length = d.sz ∧ d.K w b c ∧ ∀ j u, c[j]? = some u → w.cell? (a.add (i * d.sz + j)) = some u) ∧ good b := by
      intro i hi
      obtain ⟨cs', h1, h2⟩ := hx i (by omega)
      obtain ⟨b, hK, hg⟩ := ho _ _ _ h2
      obtain ⟨_, hlen, hcell⟩ := World.cells?_some h1
      refine ⟨b, ⟨cs', by rw [hlen, hc], hK, fun j u hu => ?_⟩, hg⟩
      have hj : j < P.cellsOf e := by
        rw [← hlen]
        exact (List.getElem?_eq_some_iff.1 hu).1
      rw [← Deep.add_add, ← hc, hcell j hj, hu]
    obtain ⟨l, hll, hp⟩ := choose_list hex
    unfold maxLen at hm
    refine ⟨l, ⟨some a, cap, by rw [hll], by omega, ⟨rfl, by omega, fun _ => ⟨a, rfl, fun j p hj => (hp j p hj).1⟩⟩⟩, ⟨by omega, fun x hx => ?_⟩⟩
    obtain ⟨i, hi, rfl⟩ := List.getElem_of_mem hx
    exact (hp i _ (List.getElem?_eq_getElem hi)).2

theorem opensSeq_one {α : Type} {d : Kd α} {good : α → Prop} {T n : Nat} (ho : Opens enc P w T d good) : OpensSeq enc P w [(T, n)] d good := by
  intro fuel cs hlen h
  obtain ⟨x, hx⟩ := h 0 T n rfl
  simp at hlen
  simp [List.take_of_length_le (Nat.le_of_eq hlen)] at hx
  exact ho _ _ _ hx
theorem opensSeq_cons {α β : Type} {d : Kd α} {good : α → Prop} {d2 : Kd β} {good2 : β → Prop} {T n : Nat} {fs : List (TypeId × Nat)} (ho : Opens enc P w T d good) (hs : OpensSeq enc P w fs d2 good2) :
    OpensSeq enc P w ((T, n) :: fs) (Kd.pair d d2) (fun x => good x.1 ∧ good2 x.2) := by
  intro fuel cs hlen h
  obtain ⟨x, hx⟩ := h 0 T n rfl
  simp at hx
  obtain ⟨a, hK, hg⟩ := ho _ _ _ hx
  simp only [List.map_cons, List.sum_cons] at hlen
  obtain ⟨b, hK2, hg2⟩ := hs fuel (cs.drop n) (by rw [List.length_drop, hlen]; omega) (fun j T' n' hj => by
    obtain ⟨y, hy⟩ := h (j + 1) T' n' (by simpa using hj)
    refine ⟨y, ?_⟩
    simp only [List.take_succ_cons, List.map_cons, List.sum_cons] at hy
    rw [List.drop_drop]
    exact hy)
  exact ⟨(a, b), ⟨cs.take n, cs.drop n, (List.take_append_drop n cs).symm, hK, hK2⟩, hg, hg2⟩

/-- A struct whose fields stand one behind the other. -/
theorem opens_struct {α β : Type} {d : Kd α} {good : α → Prop} {T : TypeId} {fs : Array Field} {l : List (TypeId × Nat)} (f : β → α) (g : α → β) (hfg : ∀ a, f (g a) = a) (ht : P.underlying T = some (.struct fs))
    (hl : l.length = fs.size) (hf : ∀ (j : Nat) (T' n : Nat), l[j]? = some (T', n) → ∃ fd, fs[j]? = some fd ∧ fd.type = T' ∧ P.cellsOf T' = n ∧ fd.offset = ((l.take j).map (·.2)).sum) (hc : P.cellsOf T = (l.map (·.2)).sum)
    (hs : OpensSeq enc P w l d good) : Opens enc P w T (Kd.iso d f) (fun x => good (f x)) := by
  intro fuel cs x h
  obtain ⟨xs, n, _, _, hlen, hxl, hx⟩ := DataW.trod_struct ht h
  obtain ⟨a, hK, hg⟩ := hs n cs (by rw [hlen, hc]) (fun j T' n' hj => by
    obtain ⟨fd, h1, h2, h3, h4⟩ := hf j T' n' hj
    have h5 := hx j fd h1
    have hj2 : j < xs.length := by
      have := (List.getElem?_eq_some_iff.1 hj).1
      omega
    rw [List.getElem?_eq_getElem hj2, h2, h3, h4] at h5
    exact ⟨_, h5⟩)
  refine ⟨g a, ?_, ?_⟩
  · show d.K w (f (g a)) cs
    rw [hfg]; exact hK
  · show good (f (g a))
    rw [hfg]; exact hg
end
end Go.Proofs.YtekijbcblajjbaaO
end
section
namespace Go.Proofs.Ytekijbcblajjbaa.fnExactVectorOf
open Go.RowKit Go.ChangeShapes Go.WideShapes Go.ChangeAt Go.Proofs.YtekijbcblajjbaaO Go.Proofs.Ytekijbcblajjbaa.PT Go.Proofs.YtekijbcblajjbaaW.PrintWords Go.Proofs.YtekijbcblajjbaaW.PrintLast
set_option linter.unusedVariables false
theorem opensT3 {H : Type} {enc : TypeId × Value → H} {w : World} : Opens enc Try.prog w 3 (Kd.int .i64) (IntGood .i64) := opens_int Try.underlying3
def goodT105 : S105 → Prop := (fun x : S105 => (IntGood .i64) x.f0 ∧ (IntGood .i64) x.f1 ∧ (IntGood .i64) x.f2)
theorem opensT105 {H : Type} {enc : TypeId × Value → H} {w : World} : Opens enc Try.prog w 105 k105 goodT105 :=
  opens_struct (l := [(3, 1), (3, 1), (3, 1)]) (fun x : S105 => (x.f0, x.f1, x.f2)) (fun a => ⟨a.1, a.2.1, a.2.2⟩) (fun _ => rfl) Try.underlying105 rfl (fun j T n h => match j, T, n, h with
    | 0, _, _, h => by cases h; exact ⟨_, rfl, rfl, by kernel_rfl, rfl⟩
    | 1, _, _, h => by cases h; exact ⟨_, rfl, rfl, by kernel_rfl, rfl⟩
    | 2, _, _, h => by cases h; exact ⟨_, rfl, rfl, by kernel_rfl, rfl⟩
    | _ + 3, _, _, h => by simp at h) (by kernel_rfl) (opensSeq_cons opensT3 (opensSeq_cons opensT3 (opensSeq_one opensT3)))
theorem opensT22 {H : Type} {enc : TypeId × Value → H} {w : World} : Opens enc Try.prog w 22 (Kd.slice 105 k105) (ListGood goodT105) := opens_slice Try.underlying22 (by kernel_rfl) opensT105
def goodT24 : S24 → Prop := (fun x : S24 => (IntGood .i64) x.f0 ∧ (IntGood .i64) x.f1 ∧ (IntGood .i64) x.f2 ∧ (ListGood goodT105) x.f3 ∧ (ListGood goodT105) x.f4 ∧ (ListGood goodT105) x.f5)
theorem opensT24 {H : Type} {enc : TypeId × Value → H} {w : World} : Opens enc Try.prog w 24 k24 goodT24 :=
  opens_struct (l := [(3, 1), (3, 1), (3, 1), (22, 1), (22, 1), (22, 1)]) (fun x : S24 => (x.f0, x.f1, x.f2, x.f3, x.f4, x.f5)) (fun a => ⟨a.1, a.2.1, a.2.2.1, a.2.2.2.1, a.2.2.2.2.1, a.2.2.2.2.2⟩) (fun _ => rfl) Try.underlying24 rfl (fun j T n h => match j, T, n, h with
    | 0, _, _, h => by cases h; exact ⟨_, rfl, rfl, by kernel_rfl, rfl⟩
    | 1, _, _, h => by cases h; exact ⟨_, rfl, rfl, by kernel_rfl, rfl⟩
    | 2, _, _, h => by cases h; exact ⟨_, rfl, rfl, by kernel_rfl, rfl⟩
    | 3, _, _, h => by cases h; exact ⟨_, rfl, rfl, by kernel_rfl, rfl⟩
    | 4, _, _, h => by cases h; exact ⟨_, rfl, rfl, by kernel_rfl, rfl⟩
    | 5, _, _, h => by cases h; exact ⟨_, rfl, rfl, by kernel_rfl, rfl⟩
    | _ + 6, _, _, h => by simp at h) (by kernel_rfl) (opensSeq_cons opensT3 (opensSeq_cons opensT3 (opensSeq_cons opensT3 (opensSeq_cons opensT22 (opensSeq_cons opensT22 (opensSeq_one opensT22))))))
theorem opensT33 {H : Type} {enc : TypeId × Value → H} {w : World} : Opens enc Try.prog w 33 (Kd.slice 3 (Kd.int .i64)) (ListGood (IntGood .i64)) := opens_slice Try.underlying33 (by kernel_rfl) opensT3
/-- What is to be shown of the law, over numbers and lists alone. -/
def Pure : Prop := ∀ (x0 : S24) (x1 : List Int) (x2 : List Int), goodT24 x0 → (ListGood (IntGood .i64)) x1 → (ListGood (IntGood .i64)) x2 → ∃ k, laws_FnExactVectorOf.f k x0.f0 x0.f1 x0.f2 x0.f3 x0.f4 x0.f5 x1 x2 = some true
end Go.Proofs.Ytekijbcblajjbaa.fnExactVectorOf
end
section
/- The field and the greater field, over whole numbers: what the printed functions of chapters 2 and 3 come to. -/
namespace Go.Proofs.Ytekijbcblajjbaa.PT
open Go.RowKit Go.Proofs.YtekijbcblajjbaaW.PrintWords Go.Proofs.YtekijbcblajjbaaW.PrintLast Go.Proofs.YtekijbcblajjbaaW.PrintMore
set_option linter.unusedVariables false
set_option linter.unusedSimpArgs false

theorem w64 {n : Int} (h0 : -9223372036854775808 ≤ n) (h1 : n ≤ 9223372036854775807) : wrap64 n = n := by unfold wrap64; omega
def inF (a : Int) : Prop := 0 ≤ a ∧ a ≤ 2130706432
instance (a : Int) : Decidable (inF a) := by unfold inF; infer_instance
end Go.Proofs.Ytekijbcblajjbaa.PT
end
section
/- What the printed functions of the field and of the greater field answer: the same sums and products on both sides. -/
namespace Go.Proofs.Ytekijbcblajjbaa.PT
open Go.RowKit Go.Proofs.YtekijbcblajjbaaW.PrintWords Go.Proofs.YtekijbcblajjbaaW.PrintLast Go.Proofs.YtekijbcblajjbaaW.PrintMore
set_option linter.unusedVariables false
set_option linter.unusedSimpArgs false

theorem impl_in_eq (a b c : Int) : impl_in.f a b c = some (decide (b ≤ a ∧ a ≤ c)) := by
  unfold impl_in.f; by_cases h : b ≤ a <;> simp [h]
theorem spec_l01In_eq (a b c : Int) : spec_l01In.f a b c = some (decide (b ≤ a ∧ a ≤ c)) := by
  unfold spec_l01In.f; by_cases h : b ≤ a <;> simp [h]
theorem impl_FieldOK_eq (a : Int) : impl_FieldOK.f a = some (decide (inF a)) := by
  unfold impl_FieldOK.f; rw [impl_in_eq]; rfl
theorem spec_FieldOK_eq (a : Int) : spec_FieldOK.f a = some (decide (inF a)) := by
  unfold spec_FieldOK.f; rw [spec_l01In_eq]; rfl
/-! lists -/
end Go.Proofs.Ytekijbcblajjbaa.PT
end
section
/- The laws' own helpers: elements copied, compared, marked; and powers of two. -/
namespace Go.Proofs.Ytekijbcblajjbaa.PT
open Go.RowKit Go.Proofs.YtekijbcblajjbaaW.PrintWords Go.Proofs.YtekijbcblajjbaaW.PrintLast Go.Proofs.YtekijbcblajjbaaW.PrintMore
set_option linter.unusedVariables false
set_option linter.unusedSimpArgs false

theorem getD_at {α : Type} {l : List α} {z : α} {i : Nat} (h : i < l.length) : l.getD i z = l[i] := by
  rw [List.getD_eq_getElem?_getD, List.getElem?_eq_getElem h]; rfl
theorem set_mid {α : Type} (a b : List α) (x y : α) : (a ++ x :: b).set a.length y = a ++ y :: b := by
  rw [List.set_append_right _ _ (Nat.le_refl _)]; simp
/-! marks: a list's cells are numbered from k on -/
/-! powers of two -/
end Go.Proofs.Ytekijbcblajjbaa.PT
end
section
/- Steps that several laws share: same answers compared, lists turned in place. -/
namespace Go.Proofs.Ytekijbcblajjbaa.PT
open Go.RowKit Go.Proofs.YtekijbcblajjbaaW.PrintWords Go.Proofs.YtekijbcblajjbaaW.PrintLast Go.Proofs.YtekijbcblajjbaaW.PrintMore
set_option linter.unusedVariables false
set_option linter.unusedSimpArgs false
/-- A step with its answer known, as a rewriting (no unfolding in the kernel). -/
theorem bS {α β : Type} (a : α) (f : α → Option β) : (some a).bind f = f a := Eq.trans (Eq.refl _) (Option.bind_some a f)
end Go.Proofs.Ytekijbcblajjbaa.PT
end
section
/- The equality weight, at a point and as a table: both sides walk the same numbers. -/
namespace Go.Proofs.Ytekijbcblajjbaa.PT
open Go.RowKit Go.Proofs.YtekijbcblajjbaaW.PrintWords Go.Proofs.YtekijbcblajjbaaW.PrintLast Go.Proofs.YtekijbcblajjbaaW.PrintMore
set_option linter.unusedVariables false
set_option linter.unusedSimpArgs false
/-! the table -/
end Go.Proofs.Ytekijbcblajjbaa.PT
end
section
/- Entries and matrices: the laws' helpers, and what both sides answer. -/
namespace Go.Proofs.Ytekijbcblajjbaa.PT
open Go.RowKit Go.Proofs.YtekijbcblajjbaaW.PrintWords Go.Proofs.YtekijbcblajjbaaW.PrintLast Go.Proofs.YtekijbcblajjbaaW.PrintMore
set_option linter.unusedVariables false
set_option linter.unusedSimpArgs false
theorem rdEntryS_src {l : List S105} {i : Nat} (h : i < l.length) : rd_T105 l (i : Int) = l[i] := by
  show l.getD (i : Int).toNat z105 = l[i]
  rw [Int.toNat_natCast, getD_at h]
theorem rdEntryS {l : List S53} {i : Nat} (h : i < l.length) : rd_T53 l (i : Int) = l[i] := by
  show l.getD (i : Int).toNat z53 = l[i]
  rw [Int.toNat_natCast, getD_at h]
def convEntryS (l : List S105) : List S53 := l.map fun x => ⟨x.f0, x.f1, x.f2⟩
theorem convEntryS_length (l : List S105) : (convEntryS l).length = l.length := by simp [convEntryS]
theorem szEntryS_big {l : List S105} {a : Int} (ha : 0 ≤ a) (ha2 : a ≤ 1048576) (hl : l.length ≤ 9223372036854775807) (h : a < l.length) : laws_szEntryS.f l a = some (-1) := by
  unfold laws_szEntryS.f; rw [w64 (by omega) (by omega), if_pos (by omega)]
theorem szEntryS_fit {l : List S105} {a : Int} (ha2 : a ≤ 1048576) (h : (l.length : Int) ≤ a) : laws_szEntryS.f l a = some (a - l.length) := by
  unfold laws_szEntryS.f; rw [w64 (by omega) (by omega), if_neg (by omega)]
theorem toEntryS_l0 (l : List S105) (hl : l.length ≤ 1048576) (d : Nat) : ∀ (k i : Nat), i + d = l.length → d < k →
    laws_toEntryS.l0 k l (convEntryS (l.take i) ++ List.replicate d z53) i = some (convEntryS l) := by
  induction d with
  | zero =>
    intro k i hi hk
    obtain ⟨k, rfl⟩ : ∃ m, k = m + 1 := ⟨k - 1, by omega⟩
    simp only [laws_toEntryS.l0]; rw [if_neg (by omega), List.take_of_length_le (by omega)]; simp
  | succ d ih =>
    intro k i hi hk
    obtain ⟨k, rfl⟩ : ∃ m, k = m + 1 := ⟨k - 1, by omega⟩
    have hlt : i < l.length := by omega
    have hlen : (convEntryS (l.take i)).length = i := by rw [convEntryS_length, List.length_take]; omega
    simp only [laws_toEntryS.l0, laws_toEntry.f]
    rw [if_pos (by omega), if_pos (by omega), rdEntryS_src hlt]
    simp only [bS]
    rw [if_pos (by rw [List.length_append, hlen, List.length_replicate]; omega), Int.toNat_natCast, List.replicate_succ]
    have hs := fun y => set_mid (convEntryS (l.take i)) (List.replicate d z53) z53 y
    rw [hlen] at hs
    rw [hs, w64 (by omega) (by omega), show (i : Int) + 1 = ((i + 1 : Nat) : Int) by omega]
    have := ih k (i + 1) (by omega) (by omega)
    rw [List.take_succ_eq_append_getElem hlt] at this
    simp only [convEntryS, List.map_append, List.map_cons, List.map_nil, List.append_assoc, List.cons_append, List.nil_append] at this
    exact this
theorem toEntryS_eq {l : List S105} (hl : l.length ≤ 1048576) {k : Nat} (hk : l.length < k) : laws_toEntryS.f k l = some (convEntryS l) := by
  unfold laws_toEntryS.f
  rw [if_pos (by omega), if_pos (by omega)]
  have := toEntryS_l0 l (by omega) l.length k 0 (by omega) hk
  rw [Int.natCast_zero, List.take_zero] at this
  rw [Int.toNat_natCast]
  exact this
theorem eqEntry_refl (x : S53) : laws_eqEntry.f x.f0 x.f1 x.f2 x.f0 x.f1 x.f2 = some true := by
  unfold laws_eqEntry.f; rw [if_pos rfl, if_pos rfl, if_pos rfl]
theorem eqEntryS_l0 (a : List S53) (hl : a.length ≤ 1048576) (d : Nat) : ∀ (k i : Nat), i + d = a.length → d < k → laws_eqEntryS.l0 k a a i = some true := by
  induction d with
  | zero =>
    intro k i hi hk
    obtain ⟨k, rfl⟩ : ∃ m, k = m + 1 := ⟨k - 1, by omega⟩
    simp only [laws_eqEntryS.l0]; rw [if_neg (by omega)]
  | succ d ih =>
    intro k i hi hk
    obtain ⟨k, rfl⟩ : ∃ m, k = m + 1 := ⟨k - 1, by omega⟩
    simp only [laws_eqEntryS.l0]
    rw [if_pos (show (i : Int) < (a.length : Int) by omega), if_pos (show 0 ≤ (i : Int) by omega), if_pos (show (i : Int) < (a.length : Int) by omega), eqEntry_refl]
    simp only [bS, if_true]
    rw [w64 (by omega) (by omega), show (i : Int) + 1 = ((i + 1 : Nat) : Int) by omega]
    exact ih k (i + 1) (by omega) (by omega)
theorem eqEntryS_refl {a : List S53} (hl : a.length ≤ 1048576) {k : Nat} (hk : a.length < k) : laws_eqEntryS.f k a a = some true := by
  unfold laws_eqEntryS.f; rw [if_pos rfl]; exact eqEntryS_l0 a hl a.length k 0 (by omega) hk
theorem rdI {l : List Int} {i : Nat} (h : i < l.length) : rd l (i : Int) = l[i] := by
  show l.getD (i : Int).toNat 0 = l[i]
  rw [Int.toNat_natCast, getD_at h]
theorem toIntS_l0 (l : List Int) (hl : l.length ≤ 1048576) (d : Nat) : ∀ (k i : Nat), i + d = l.length → d < k → laws_toIntS.l0 k l (l.take i ++ List.replicate d 0) i = some l := by
  induction d with
  | zero =>
    intro k i hi hk
    obtain ⟨k, rfl⟩ : ∃ m, k = m + 1 := ⟨k - 1, by omega⟩
    simp only [laws_toIntS.l0]; rw [if_neg (by omega), List.take_of_length_le (by omega)]; simp
  | succ d ih =>
    intro k i hi hk
    obtain ⟨k, rfl⟩ : ∃ m, k = m + 1 := ⟨k - 1, by omega⟩
    have hlt : i < l.length := by omega
    have hlen : (l.take i).length = i := by rw [List.length_take]; omega
    simp only [laws_toIntS.l0]
    rw [if_pos (by omega), if_pos (by omega), rdI hlt, if_pos (by rw [List.length_append, hlen, List.length_replicate]; omega), Int.toNat_natCast, List.replicate_succ]
    have hs := fun y => set_mid (l.take i) (List.replicate d 0) 0 y
    rw [hlen] at hs
    rw [hs, w64 (by omega) (by omega), show (i : Int) + 1 = ((i + 1 : Nat) : Int) by omega]
    have := ih k (i + 1) (by omega) (by omega)
    rw [List.take_succ_eq_append_getElem hlt, List.append_assoc] at this
    exact this
theorem toIntS_eq {l : List Int} (hl : l.length ≤ 1048576) {k : Nat} (hk : l.length < k) : laws_toIntS.f k l = some l := by
  unfold laws_toIntS.f
  rw [if_pos (by omega), if_pos (by omega)]
  have := toIntS_l0 l hl l.length k 0 (by omega) hk
  rw [Int.natCast_zero, List.take_zero] at this
  rw [Int.toNat_natCast]
  exact this
theorem eqIntS_l0 (a : List Int) (hl : a.length ≤ 1048576) (d : Nat) : ∀ (k i : Nat), i + d = a.length → d < k → laws_eqIntS.l0 k a a i = some true := by
  induction d with
  | zero =>
    intro k i hi hk
    obtain ⟨k, rfl⟩ : ∃ m, k = m + 1 := ⟨k - 1, by omega⟩
    simp only [laws_eqIntS.l0]; rw [if_neg (by omega)]
  | succ d ih =>
    intro k i hi hk
    obtain ⟨k, rfl⟩ : ∃ m, k = m + 1 := ⟨k - 1, by omega⟩
    simp only [laws_eqIntS.l0]
    rw [if_pos (show (i : Int) < (a.length : Int) by omega), if_pos (show 0 ≤ (i : Int) by omega), if_pos (show (i : Int) < (a.length : Int) by omega), if_true, w64 (by omega) (by omega), show (i : Int) + 1 = ((i + 1 : Nat) : Int) by omega]
    exact ih k (i + 1) (by omega) (by omega)
theorem eqIntS_refl {a : List Int} (hl : a.length ≤ 1048576) {k : Nat} (hk : a.length < k) : laws_eqIntS.f k a a = some true := by
  unfold laws_eqIntS.f; rw [if_pos rfl]; exact eqIntS_l0 a hl a.length k 0 (by omega) hk
def markedI : Nat → Int → List Int
  | 0, _ => []
  | n + 1, k => k :: markedI n (k + 1)
theorem markedI_length (n : Nat) : ∀ k, (markedI n k).length = n := by
  induction n with
  | zero => intro k; rfl
  | succ n ih => intro k; simp [markedI, ih]
theorem markedI_snoc (n : Nat) : ∀ k : Int, markedI (n + 1) k = markedI n k ++ [k + n] := by
  induction n with
  | zero => intro k; simp [markedI]
  | succ n ih =>
    intro k
    rw [markedI, ih, markedI, List.cons_append]
    have e : k + 1 + (n : Int) = k + ((n : Int) + 1) := by omega
    rw [Int.natCast_succ, e]
theorem markedI_get (n : Nat) : ∀ (k : Int) (i : Nat) (h : i < (markedI n k).length), (markedI n k)[i] = k + i := by
  induction n with
  | zero => intro k i h; simp [markedI] at h
  | succ n ih =>
    intro k i h
    cases i with
    | zero => simp [markedI]
    | succ i =>
      simp only [markedI, List.getElem_cons_succ]
      rw [ih]; omega
theorem markIntS_l0 (a : List Int) (k0 : Int) (hk0 : 0 ≤ k0) (hk1 : k0 ≤ 4611686018427387904) (hl : a.length ≤ 1048576) (d : Nat) : ∀ (k i : Nat), i + d = a.length → d < k →
    laws_markIntS.l0 k (markedI i k0 ++ a.drop i) (k0 + i) i = some (k0 + a.length, markedI a.length k0) := by
  induction d with
  | zero =>
    intro k i hi hk
    obtain ⟨k, rfl⟩ : ∃ m, k = m + 1 := ⟨k - 1, by omega⟩
    have : i = a.length := by omega
    subst this
    simp only [laws_markIntS.l0]
    rw [if_neg (by rw [List.length_append, markedI_length, List.length_drop]; omega)]; simp
  | succ d ih =>
    intro k i hi hk
    obtain ⟨k, rfl⟩ : ∃ m, k = m + 1 := ⟨k - 1, by omega⟩
    have hlt : i < a.length := by omega
    simp only [laws_markIntS.l0]
    rw [if_pos (by rw [List.length_append, markedI_length, List.length_drop]; omega), if_pos (by omega), Int.toNat_natCast, List.drop_eq_getElem_cons hlt]
    have hs := set_mid (markedI i k0) (a.drop (i + 1)) a[i] (k0 + i)
    rw [markedI_length] at hs
    rw [hs, w64 (n := k0 + (i : Int) + 1) (by omega) (by omega), w64 (by omega) (by omega), show (i : Int) + 1 = ((i + 1 : Nat) : Int) by omega, show k0 + (i : Int) + 1 = k0 + ((i + 1 : Nat) : Int) by omega]
    have := ih k (i + 1) (by omega) (by omega)
    rw [markedI_snoc, List.append_assoc] at this
    exact this
theorem markIntS_eq {a : List Int} {k0 : Int} (hk0 : 0 ≤ k0) (hk1 : k0 ≤ 4611686018427387904) (hl : a.length ≤ 1048576) {k : Nat} (hk : a.length < k) : laws_markIntS.f k a k0 = some (k0 + a.length, markedI a.length k0) := by
  have := markIntS_l0 a k0 hk0 hk1 hl a.length k 0 (by omega) hk
  unfold laws_markIntS.f
  simpa [markedI] using this
theorem heldIntS_l0 (n : Nat) (k0 : Int) (hk0 : 0 ≤ k0) (hk1 : k0 ≤ 4611686018427387904) (hl : n ≤ 1048576) (d : Nat) : ∀ (k i : Nat), i + d = n → d < k → laws_heldIntS.l0 k (markedI n k0) (k0 + i) i = some (k0 + n) := by
  induction d with
  | zero =>
    intro k i hi hk
    obtain ⟨k, rfl⟩ : ∃ m, k = m + 1 := ⟨k - 1, by omega⟩
    have : i = n := by omega
    subst this
    simp only [laws_heldIntS.l0]
    rw [if_neg (by rw [markedI_length]; omega)]
  | succ d ih =>
    intro k i hi hk
    obtain ⟨k, rfl⟩ : ∃ m, k = m + 1 := ⟨k - 1, by omega⟩
    have hlt : i < (markedI n k0).length := by rw [markedI_length]; omega
    simp only [laws_heldIntS.l0]
    rw [if_pos (by rw [markedI_length]; omega), if_pos (by omega), rdI hlt, markedI_get, if_pos rfl, w64 (by omega) (by omega), w64 (by omega) (by omega), show (i : Int) + 1 = ((i + 1 : Nat) : Int) by omega, show k0 + (i : Int) + 1 = k0 + ((i + 1 : Nat) : Int) by omega]
    exact ih k (i + 1) (by omega) (by omega)
theorem heldIntS_eq {n : Nat} {k0 : Int} (hk0 : 0 ≤ k0) (hk1 : k0 ≤ 4611686018427387904) (hl : n ≤ 1048576) {k : Nat} (hk : n < k) : laws_heldIntS.f k (markedI n k0) k0 = some (k0 + n) := by
  have := heldIntS_l0 n k0 hk0 hk1 hl n k 0 (by omega) hk
  unfold laws_heldIntS.f
  simpa using this
/-! matrices -/
def befB (x y : S53) : Bool := decide (x.f0 < y.f0 ∨ (x.f0 = y.f0 ∧ x.f1 < y.f1))
theorem order_eq (x y : S53) {k : Nat} (hk : 5 < k) : ∃ r, impl_Entry_order.f k x.f0 x.f1 x.f2 y.f0 y.f1 y.f2 = some r ∧ (¬ r ≥ 0 ↔ befB x y = true) := by
  obtain ⟨k, rfl⟩ : ∃ m, k = m + 1 + 1 + 1 := ⟨k - 3, by omega⟩
  have cmp : ∀ a b : Int, cmp_Compare_int.f a b = some (if a < b then -1 else if a > b then 1 else 0) := by
    intro a b
    unfold cmp_Compare_int.f cmp_isNaN_int.f
    simp only [bne_self_eq_false, bS, Bool.false_eq_true, if_false]
    by_cases h : a < b
    · rw [if_pos h, if_pos h]
    · rw [if_neg h, if_neg h]
      by_cases h2 : a > b
      · rw [if_pos h2, if_pos h2]
      · rw [if_neg h2, if_neg h2]
  unfold impl_Entry_order.f
  rw [cmp, cmp]
  simp only [bS, cmp_Or_int.f]
  have w0 : wrap64 ((0 : Int) + 1) = 1 := w64 (by omega) (by omega)
  have w1 : wrap64 ((1 : Int) + 1) = 2 := w64 (by omega) (by omega)
  have r0 : ∀ p q : Int, rd [p, q] 0 = p := fun _ _ => rfl
  have r1 : ∀ p q : Int, rd [p, q] 1 = q := fun _ _ => rfl
  have hl : ∀ p q : Int, (([p, q] : List Int).length : Int) = 2 := fun _ _ => rfl
  simp only [cmp_Or_int.l0, hl, r0, r1, w0, w1]
  unfold befB
  by_cases h1 : x.f0 < y.f0
  · rw [if_pos h1]
    exact ⟨-1, by simp, by simp [h1]⟩
  · rw [if_neg h1]
    by_cases h2 : x.f0 > y.f0
    · rw [if_pos h2]
      refine ⟨1, by simp, ?_⟩
      simp only [decide_eq_true_eq]
      omega
    · rw [if_neg h2]
      by_cases h3 : x.f1 < y.f1
      · rw [if_pos h3]
        refine ⟨-1, by simp, ?_⟩
        simp only [decide_eq_true_eq]
        omega
      · rw [if_neg h3]
        by_cases h4 : x.f1 > y.f1
        · rw [if_pos h4]
          refine ⟨1, by simp, ?_⟩
          simp only [decide_eq_true_eq]
          omega
        · rw [if_neg h4]
          refine ⟨0, by simp, ?_⟩
          simp only [decide_eq_true_eq]
          omega
/-- All entries lie within r rows and c columns, are of the field and not nought, and stand in order. -/
def entB (r c : Int) (x : S53) : Bool := decide (0 ≤ x.f0 ∧ x.f0 ≤ r - 1) && decide (0 ≤ x.f1 ∧ x.f1 ≤ c - 1) && decide (1 ≤ x.f2 ∧ x.f2 ≤ 2130706432)
def matB (r c : Int) : List S53 → Bool
  | [] => true
  | [x] => entB r c x
  | x :: y :: zs => entB r c x && (befB x y && matB r c (y :: zs))
def matFrom (r c : Int) (l : List S53) (i : Nat) : Bool := (decide (i = 0) || decide (l.length ≤ i) || befB (l.getD (i - 1) z53) (l.getD i z53)) && matB r c (l.drop i)
theorem matFrom_step (r c : Int) (l : List S53) (i : Nat) (h : i < l.length) :
    matFrom r c l i = (entB r c l[i] && ((decide (i = 0) || befB (l.getD (i - 1) z53) l[i]) && matFrom r c l (i + 1))) := by
  unfold matFrom
  have e1 : decide (l.length ≤ i) = false := decide_eq_false (by omega)
  rw [e1, Bool.or_false, getD_at h, List.drop_eq_getElem_cons h]
  have e2 : decide (i + 1 = 0) = false := decide_eq_false (by omega)
  rw [e2, Bool.false_or, Nat.add_sub_cancel, getD_at h]
  by_cases h2 : l.length ≤ i + 1
  · rw [decide_eq_true h2, List.drop_eq_nil_of_le h2, Bool.true_or, Bool.true_and, matB, matB, Bool.and_true]
    cases entB r c l[i] <;> cases (decide (i = 0) || befB (l.getD (i - 1) z53) l[i]) <;> rfl
  · have h3 : i + 1 < l.length := by omega
    rw [decide_eq_false h2, Bool.false_or, getD_at h3, List.drop_eq_getElem_cons h3, matB]
    cases entB r c l[i] <;> cases (decide (i = 0) || befB (l.getD (i - 1) z53) l[i]) <;> rfl
theorem isMatrix_l0 (l : List S53) (hl : l.length ≤ 1048576) (r c : Int) (hr : 0 ≤ r) (hr2 : r ≤ 1000000) (hc : 0 ≤ c) (hc2 : c ≤ 1000000) (d : Nat) : ∀ (k i : Nat), i + d = l.length → d + 10 < k →
    impl_isMatrix.l0 k l r c l (l.length : Int) i = some (matFrom r c l i && decide (l.length ≤ 200)) := by
  induction d with
  | zero =>
    intro k i hi hk
    obtain ⟨k, rfl⟩ : ∃ m, k = m + 1 := ⟨k - 1, by omega⟩
    simp only [impl_isMatrix.l0]
    have e : matFrom r c l i = true := by unfold matFrom; rw [List.drop_eq_nil_of_le (by omega), decide_eq_true (show l.length ≤ i by omega)]; simp [matB]
    rw [if_neg (by omega), e, Bool.true_and]
    congr 1
    rw [Bool.eq_iff_iff, decide_eq_true_eq, decide_eq_true_eq]; omega
  | succ d ih =>
    intro k i hi hk
    obtain ⟨k, rfl⟩ : ∃ m, k = m + 1 := ⟨k - 1, by omega⟩
    have hlt : i < l.length := by omega
    simp only [impl_isMatrix.l0]
    rw [if_pos (show (i : Int) < (l.length : Int) by omega), if_pos (show 0 ≤ (i : Int) by omega), if_pos (show (i : Int) < (l.length : Int) by omega), rdEntryS hlt, impl_in_eq, impl_in_eq, impl_in_eq, matFrom_step r c l i hlt,
      w64 (n := r - 1) (by omega) (by omega), w64 (n := c - 1) (by omega) (by omega), w64 (n := (i : Int) + 1) (by omega) (by omega), show (i : Int) + 1 = ((i + 1 : Nat) : Int) by omega]
    simp only [bS]
    by_cases h1 : 0 ≤ (l[i]).f0 ∧ (l[i]).f0 ≤ r - 1
    · by_cases h2 : 0 ≤ (l[i]).f1 ∧ (l[i]).f1 ≤ c - 1
      · by_cases h3 : 1 ≤ (l[i]).f2 ∧ (l[i]).f2 ≤ 2130706432
        · have e : entB r c l[i] = true := by unfold entB; rw [decide_eq_true h1, decide_eq_true h2, decide_eq_true h3]; rfl
          rw [decide_eq_true h1, decide_eq_true h2, decide_eq_true h3, e]
          simp only [if_true, Bool.true_and]
          by_cases h4 : i = 0
          · rw [if_neg (by omega), decide_eq_true h4, Bool.true_or, Bool.true_and]
            exact ih k (i + 1) (by omega) (by omega)
          · have hp : i - 1 < l.length := by omega
            have ei : (i : Int) - 1 = ((i - 1 : Nat) : Int) := by omega
            rw [if_pos (by omega), w64 (n := (i : Int) - 1) (by omega) (by omega), ei, if_pos (by omega), if_pos (by omega), rdEntryS hp, decide_eq_false h4, Bool.false_or, getD_at hp]
            obtain ⟨q, e5, e6⟩ := order_eq l[i - 1] l[i] (k := k) (by omega)
            rw [e5]
            simp only [bS]
            by_cases h5 : q ≥ 0
            · have e7 : befB l[i - 1] l[i] = false := by
                rw [Bool.eq_false_iff]; intro h; exact (e6.2 h) h5
              rw [if_pos h5, e7]; rfl
            · rw [if_neg h5, e6.1 h5, Bool.true_and]
              exact ih k (i + 1) (by omega) (by omega)
        · have e : entB r c l[i] = false := by unfold entB; rw [decide_eq_false h3, Bool.and_false]
          rw [decide_eq_true h1, decide_eq_true h2, decide_eq_false h3, e]; rfl
      · have e : entB r c l[i] = false := by unfold entB; rw [decide_eq_false h2, Bool.and_false, Bool.false_and]
        rw [decide_eq_true h1, decide_eq_false h2, e]; rfl
    · have e : entB r c l[i] = false := by unfold entB; rw [decide_eq_false h1, Bool.false_and, Bool.false_and]
      rw [decide_eq_false h1, e]; rfl
def matOK (r c : Int) (l : List S53) : Bool := matB r c l && decide (l.length ≤ 200)
theorem isMatrix_eq {l : List S53} (hl : l.length ≤ 1048576) {r c : Int} (hr : 0 ≤ r) (hr2 : r ≤ 1000000) (hc : 0 ≤ c) (hc2 : c ≤ 1000000) {k : Nat} (hk : l.length + 10 < k) : impl_isMatrix.f k l r c = some (matOK r c l) := by
  have h := isMatrix_l0 l hl r c hr hr2 hc hc2 l.length k 0 (by omega) hk
  have e : matFrom r c l 0 = matB r c l := by unfold matFrom; rw [List.drop_zero]; simp
  rw [Int.natCast_zero, e] at h
  exact h
end Go.Proofs.Ytekijbcblajjbaa.PT
end
section
/- Tables turned in place, folded, and read at a point: both sides walk the same numbers. -/
namespace Go.Proofs.Ytekijbcblajjbaa.PT
open Go.RowKit Go.Proofs.YtekijbcblajjbaaW.PrintWords Go.Proofs.YtekijbcblajjbaaW.PrintLast Go.Proofs.YtekijbcblajjbaaW.PrintMore
set_option linter.unusedVariables false
set_option linter.unusedSimpArgs false
/-! a table turned in place -/
/-! a table folded -/
/-! a table at a point -/
theorem shl_small0 : ∀ n : Fin 10, shl .i64 1 (n.val : Int) = ((2 ^ n.val : Nat) : Int) := by decide +kernel
theorem shl_small {n : Nat} (h : n < 10) : shl .i64 1 (n : Int) = ((2 ^ n : Nat) : Int) := shl_small0 ⟨n, h⟩
end Go.Proofs.Ytekijbcblajjbaa.PT
end
section
/- Powers, inverses and the line: what the printed functions of chapter 2 come to. -/
namespace Go.Proofs.Ytekijbcblajjbaa.PT
open Go.RowKit Go.Proofs.YtekijbcblajjbaaW.PrintWords Go.Proofs.YtekijbcblajjbaaW.PrintLast Go.Proofs.YtekijbcblajjbaaW.PrintMore
set_option linter.unusedVariables false
set_option linter.unusedSimpArgs false
end Go.Proofs.Ytekijbcblajjbaa.PT
end
section
/- Words: their transform, its inverse, and a word folded: both sides walk the same numbers. -/
namespace Go.Proofs.Ytekijbcblajjbaa.PT
open Go.RowKit Go.Proofs.YtekijbcblajjbaaW.PrintWords Go.Proofs.YtekijbcblajjbaaW.PrintLast Go.Proofs.YtekijbcblajjbaaW.PrintMore
set_option linter.unusedVariables false
set_option linter.unusedSimpArgs false
theorem u64w {n : Int} (h0 : 0 ≤ n) (h1 : n ≤ 4611686018427387904) : IntKind.u64.wrap n = n := by
  simp only [IntKind.wrap, IntKind.bits, IntKind.signed]; simp; omega
/-! logarithms and roots -/
/-! a pair folded -/
/-! the transform -/
end Go.Proofs.Ytekijbcblajjbaa.PT
end
section
/- The field's order is a prime: powers, inverses and the greater field's laws. -/
namespace Go.Proofs.Ytekijbcblajjbaa.PT
open Go.RowKit Go.Proofs.YtekijbcblajjbaaW.PrintWords Go.Proofs.YtekijbcblajjbaaW.PrintLast Go.Proofs.YtekijbcblajjbaaW.PrintMore
set_option linter.unusedVariables false
set_option linter.unusedSimpArgs false
end Go.Proofs.Ytekijbcblajjbaa.PT
end
section
/- Matrices times numbers, and matrices at points: both sides walk the same numbers. -/
namespace Go.Proofs.Ytekijbcblajjbaa.PT
open Go.RowKit Go.Proofs.YtekijbcblajjbaaW.PrintWords Go.Proofs.YtekijbcblajjbaaW.PrintLast Go.Proofs.YtekijbcblajjbaaW.PrintMore
set_option linter.unusedVariables false
set_option linter.unusedSimpArgs false
theorem l10List_l0 (l : List S53) (hl : l.length ≤ 200) (s t : Nat) (hs : s ≤ 9) (ht : t ≤ 9) (d : Nat) : ∀ (k i : Nat), i + d = l.length → 2 * d < k →
    spec_l10List.l0 k l s t i = some (matFrom ((2 ^ s : Nat) : Int) ((2 ^ t : Nat) : Int) l i) := by
  have hps : 2 ^ s ≤ 512 := Nat.le_trans (Nat.pow_le_pow_right (by omega) hs) (by decide)
  have hpt : 2 ^ t ≤ 512 := Nat.le_trans (Nat.pow_le_pow_right (by omega) ht) (by decide)
  induction d with
  | zero =>
    intro k i hi hk
    obtain ⟨k, rfl⟩ : ∃ m, k = m + 1 := ⟨k - 1, by omega⟩
    simp only [spec_l10List.l0]
    have e : matFrom ((2 ^ s : Nat) : Int) ((2 ^ t : Nat) : Int) l i = true := by unfold matFrom; rw [List.drop_eq_nil_of_le (by omega), decide_eq_true (show l.length ≤ i by omega)]; simp [matB]
    rw [if_neg (by omega), e]
  | succ d ih =>
    intro k i hi hk
    obtain ⟨k, rfl⟩ : ∃ m, k = m + 1 + 1 := ⟨k - 2, by omega⟩
    have hlt : i < l.length := by omega
    have hr0 : (0 : Int) ≤ ((2 ^ s : Nat) : Int) := Int.natCast_nonneg _
    have hr1 : ((2 ^ s : Nat) : Int) ≤ 512 := Int.ofNat_le.mpr hps
    have hc0 : (0 : Int) ≤ ((2 ^ t : Nat) : Int) := Int.natCast_nonneg _
    have hc1 : ((2 ^ t : Nat) : Int) ≤ 512 := Int.ofNat_le.mpr hpt
    generalize hr : ((2 ^ s : Nat) : Int) = r at *
    generalize hc : ((2 ^ t : Nat) : Int) = c at *
    have es : shl .i64 1 (s : Int) = r := by rw [shl_small (by omega), hr]
    have et : shl .i64 1 (t : Int) = c := by rw [shl_small (by omega), hc]
    simp only [spec_l10List.l0]
    rw [if_pos (show (i : Int) < (l.length : Int) by omega), if_pos (show 0 ≤ (i : Int) by omega), u64w (n := (s : Int)) (by omega) (by omega), u64w (n := (t : Int)) (by omega) (by omega), if_pos (show 0 ≤ (s : Int) by omega), es, et, rdEntryS hlt, spec_l01In_eq, spec_l01In_eq, spec_l01In_eq, matFrom_step r c l i hlt,
      w64 (n := r - 1) (by omega) (by omega), w64 (n := c - 1) (by omega) (by omega)]
    simp only [bS]
    have bad : ∀ x y z, spec_l10List.j1 (k + 1) l s t i true x y z = some false := by intro x y z; simp only [spec_l10List.j1, if_true]
    by_cases h1 : 0 ≤ (l[i]).f0 ∧ (l[i]).f0 ≤ r - 1
    · rw [decide_eq_true h1]
      simp only [if_true]
      rw [if_pos (show 0 ≤ (t : Int) by omega)]
      by_cases h2 : 0 ≤ (l[i]).f1 ∧ (l[i]).f1 ≤ c - 1
      · rw [decide_eq_true h2]
        simp only [if_true]
        by_cases h3 : 1 ≤ (l[i]).f2 ∧ (l[i]).f2 ≤ 2130706432
        · have e : entB r c l[i] = true := by unfold entB; rw [decide_eq_true h1, decide_eq_true h2, decide_eq_true h3]; rfl
          rw [decide_eq_true h3, e]
          simp only [Bool.not_true, Bool.true_and, spec_l10List.j1, Bool.false_eq_true, if_false]
          rw [w64 (n := (i : Int) + 1) (by omega) (by omega), show (i : Int) + 1 = ((i + 1 : Nat) : Int) by omega]
          by_cases h4 : i = 0
          · rw [if_neg (by omega), decide_eq_true h4, Bool.true_or, Bool.true_and]
            exact ih k (i + 1) (by omega) (by omega)
          · have hp : i - 1 < l.length := by omega
            have ei : (i : Int) - 1 = ((i - 1 : Nat) : Int) := by omega
            rw [if_pos (by omega), w64 (n := (i : Int) - 1) (by omega) (by omega), ei, if_pos (by omega), if_pos (by omega), rdEntryS hp, decide_eq_false h4, Bool.false_or, getD_at hp]
            unfold befB
            by_cases h5 : (l[i - 1]).f0 > (l[i]).f0
            · rw [if_pos h5, decide_eq_false (by omega)]; rfl
            · rw [if_neg h5]
              by_cases h6 : (l[i - 1]).f0 = (l[i]).f0
              · rw [if_pos h6]
                by_cases h7 : (l[i - 1]).f1 ≥ (l[i]).f1
                · rw [if_pos h7, decide_eq_false (by omega)]; rfl
                · rw [if_neg h7, decide_eq_true (by omega), Bool.true_and]
                  exact ih k (i + 1) (by omega) (by omega)
              · rw [if_neg h6, decide_eq_true (by omega), Bool.true_and]
                exact ih k (i + 1) (by omega) (by omega)
        · have e : entB r c l[i] = false := by unfold entB; rw [decide_eq_false h3, Bool.and_false]
          rw [decide_eq_false h3, e, Bool.not_false, bad]; rfl
      · have e : entB r c l[i] = false := by unfold entB; rw [decide_eq_false h2, Bool.and_false, Bool.false_and]
        rw [decide_eq_false h2, e]
        simp only [Bool.false_eq_true, if_false]
        rw [bad]; rfl
    · have e : entB r c l[i] = false := by unfold entB; rw [decide_eq_false h1, Bool.false_and, Bool.false_and]
      rw [decide_eq_false h1, e]
      simp only [Bool.false_eq_true, if_false]
      rw [bad]; rfl
theorem l10List_eq {l : List S53} {s t : Nat} (hs : s ≤ 9) (ht : t ≤ 9) {k : Nat} (hk : 500 < k) : spec_l10List.f k l s t = some (matOK ((2 ^ s : Nat) : Int) ((2 ^ t : Nat) : Int) l) := by
  unfold spec_l10List.f matOK
  by_cases h : (l.length : Int) > 200
  · rw [if_pos h, decide_eq_false (by omega), Bool.and_false]
  · have e := l10List_l0 l (by omega) s t hs ht l.length k 0 (by omega) (by omega)
    have e2 : matFrom ((2 ^ s : Nat) : Int) ((2 ^ t : Nat) : Int) l 0 = matB ((2 ^ s : Nat) : Int) ((2 ^ t : Nat) : Int) l := by unfold matFrom; rw [List.drop_zero]; simp
    rw [Int.natCast_zero, e2] at e
    rw [if_neg h, decide_eq_true (by omega), Bool.and_true, e]
def fieldsB (l : List Int) : Bool := l.all fun x => decide (inF x)
theorem are_fields_eq (l : List Int) : impl_are_int_FieldOK.f l = some (fieldsB l) := by
  unfold impl_are_int_FieldOK.f fieldsB
  congr 2; funext x; unfold impl_are_int_FieldOK.p; rw [impl_FieldOK_eq]; rfl
theorem l10Fields_l0 (l : List Int) (hl : l.length ≤ 1048576) (d : Nat) : ∀ (k i : Nat), i + d = l.length → d < k → spec_l10Fields.l0 k l i = some (fieldsB (l.drop i)) := by
  induction d with
  | zero =>
    intro k i hi hk
    obtain ⟨k, rfl⟩ : ∃ m, k = m + 1 := ⟨k - 1, by omega⟩
    simp only [spec_l10Fields.l0]; rw [if_neg (by omega), List.drop_eq_nil_of_le (by omega)]; rfl
  | succ d ih =>
    intro k i hi hk
    obtain ⟨k, rfl⟩ : ∃ m, k = m + 1 := ⟨k - 1, by omega⟩
    have hlt : i < l.length := by omega
    simp only [spec_l10Fields.l0]
    rw [if_pos (show (i : Int) < (l.length : Int) by omega), if_pos (show 0 ≤ (i : Int) by omega), rdI hlt, spec_FieldOK_eq, List.drop_eq_getElem_cons hlt, w64 (by omega) (by omega), show (i : Int) + 1 = ((i + 1 : Nat) : Int) by omega]
    simp only [bS, fieldsB, List.all_cons]
    by_cases h : inF l[i]
    · rw [decide_eq_true h, if_pos rfl, Bool.true_and]; exact ih k (i + 1) (by omega) (by omega)
    · rw [decide_eq_false h]; rfl
theorem l10Fields_eq {l : List Int} (hl : l.length ≤ 1048576) {k : Nat} (hk : l.length < k) : spec_l10Fields.f k l = some (fieldsB l) := by
  have e := l10Fields_l0 l hl l.length k 0 (by omega) hk
  rw [Int.natCast_zero, List.drop_zero] at e
  unfold spec_l10Fields.f; exact e
/-! at points -/
end Go.Proofs.Ytekijbcblajjbaa.PT
end
section
/- Systems: both sides ask the same of a system and of numbers, and come to the same failed row. -/
namespace Go.Proofs.Ytekijbcblajjbaa.PT
open Go.RowKit Go.Proofs.YtekijbcblajjbaaW.PrintWords Go.Proofs.YtekijbcblajjbaaW.PrintLast Go.Proofs.YtekijbcblajjbaaW.PrintMore
set_option linter.unusedVariables false
set_option linter.unusedSimpArgs false
theorem szSystem_fit {a b c : Int} {x y z : List S105} (h : x.length + y.length + z.length ≤ 1048576) : laws_szSystem.f a b c x y z 1048576 = some ((1048576 : Int) - x.length - y.length - z.length) := by
  unfold laws_szSystem.f
  rw [szEntryS_fit (by omega) (by omega)]
  simp only [bS]
  rw [if_neg (by omega), szEntryS_fit (by omega) (by omega)]
  simp only [bS]
  rw [if_neg (by omega), szEntryS_fit (by omega) (by omega)]
  simp only [bS]
  rw [if_neg (by omega)]
theorem szSystem_big {a b c : Int} {x y z : List S105} (hx : x.length ≤ 9223372036854775807) (hy : y.length ≤ 9223372036854775807) (hz : z.length ≤ 9223372036854775807) (h : ¬ x.length + y.length + z.length ≤ 1048576) : laws_szSystem.f a b c x y z 1048576 = some (-1) := by
  unfold laws_szSystem.f
  by_cases h1 : x.length ≤ 1048576
  · rw [szEntryS_fit (by omega) (by omega)]
    simp only [bS]
    rw [if_neg (by omega)]
    by_cases h2 : x.length + y.length ≤ 1048576
    · rw [szEntryS_fit (by omega) (by omega)]
      simp only [bS]
      rw [if_neg (by omega), szEntryS_big (by omega) (by omega) hz (by omega)]
      rfl
    · rw [szEntryS_big (by omega) (by omega) hy (by omega)]
      rfl
  · rw [szEntryS_big (by omega) (by omega) hx (by omega)]
    rfl
theorem toSystem_eq {a b c : Int} {x y z : List S105} (h : x.length + y.length + z.length ≤ 1048576) {k : Nat} (hk : 1048576 < k) : laws_toSystem.f k a b c x y z = some (a, b, c, convEntryS x, convEntryS y, convEntryS z) := by
  unfold laws_toSystem.f
  rw [toEntryS_eq (by omega) (by omega), toEntryS_eq (by omega) (by omega), toEntryS_eq (by omega) (by omega)]
  rfl
theorem eqSystem_refl {a b c : Int} {x y z : List S53} (hx : x.length ≤ 1048576) (hy : y.length ≤ 1048576) (hz : z.length ≤ 1048576) {k : Nat} (hk : 1048576 < k) : laws_eqSystem.f k a b c x y z a b c x y z = some true := by
  unfold laws_eqSystem.f
  rw [if_pos rfl, if_pos rfl, if_pos rfl, eqEntryS_refl hx (by omega), eqEntryS_refl hy (by omega), eqEntryS_refl hz (by omega)]
  rfl
def mat3 (r c : Int) (x y z : List S53) : Bool := matOK r c x && (matOK r c y && matOK r c z)
/-- A system is right. -/
def sysB (a b c : Int) (x y z : List S53) : Bool := decide (1 ≤ a ∧ a ≤ 5) && (decide (2 ≤ b ∧ b ≤ 5) && (decide (0 ≤ c ∧ c ≤ ((2 ^ (b.toNat - 1) : Nat) : Int) - 1) && mat3 ((2 ^ a.toNat : Nat) : Int) ((2 ^ b.toNat : Nat) : Int) x y z))
theorem half_eq {b : Int} (h1 : 1 ≤ b) (h2 : b ≤ 5) (a c : Int) (x y z : List S53) : impl_System_half.f a b c x y z = some ((2 ^ (b.toNat - 1) : Nat) : Int) := by
  unfold impl_System_half.f
  rw [w64 (by omega) (by omega), if_pos (by omega), show b - 1 = ((b.toNat - 1 : Nat) : Int) by omega, Go.Proofs.Ytekijbcblajjbaa.PT.shl_small (by omega)]
theorem two_le (t : Nat) (h : t ≤ 5) : 2 ^ t ≤ 32 := Nat.le_trans (Nat.pow_le_pow_right (by omega) h) (by decide)
theorem mats_impl {s t : Nat} (hs : s ≤ 5) (ht : t ≤ 5) {x y z : List S53} (hx : x.length ≤ 1048576) (hy : y.length ≤ 1048576) (hz : z.length ≤ 1048576) {k : Nat} (hk : 1050000 < k) (a b c : Int) (ha : a = (s : Int)) (hb : b = (t : Int)) :
    impl_SystemOK.j0 (k + 1) false a b c x y z = some (mat3 ((2 ^ s : Nat) : Int) ((2 ^ t : Nat) : Int) x y z) := by
  subst ha hb
  have h1 := two_le s hs
  have h2 := two_le t ht
  simp only [impl_SystemOK.j0, Bool.false_eq_true, if_false]
  rw [if_pos (show 0 ≤ (s : Int) by omega), if_pos (show 0 ≤ (t : Int) by omega), Go.Proofs.Ytekijbcblajjbaa.PT.shl_small (by omega), Go.Proofs.Ytekijbcblajjbaa.PT.shl_small (by omega),
    isMatrix_eq hx (Int.natCast_nonneg _) (by omega) (Int.natCast_nonneg _) (by omega) (by omega), isMatrix_eq hy (Int.natCast_nonneg _) (by omega) (Int.natCast_nonneg _) (by omega) (by omega), isMatrix_eq hz (Int.natCast_nonneg _) (by omega) (Int.natCast_nonneg _) (by omega) (by omega)]
  simp only [bS]
  unfold mat3
  cases matOK ((2 ^ s : Nat) : Int) ((2 ^ t : Nat) : Int) x <;> cases matOK ((2 ^ s : Nat) : Int) ((2 ^ t : Nat) : Int) y <;> cases matOK ((2 ^ s : Nat) : Int) ((2 ^ t : Nat) : Int) z <;> rfl
theorem SystemOK_eq {a b c : Int} {x y z : List S53} (hx : x.length ≤ 1048576) (hy : y.length ≤ 1048576) (hz : z.length ≤ 1048576) {k : Nat} (hk : 1050002 < k) :
    impl_SystemOK.f k a b c x y z = some (sysB a b c x y z) ∧ spec_SystemOK.f k a b c x y z = some (sysB a b c x y z) := by
  obtain ⟨k, rfl⟩ : ∃ m, k = m + 1 := ⟨k - 1, by omega⟩
  unfold impl_SystemOK.f spec_SystemOK.f sysB
  rw [impl_in_eq, spec_l01In_eq]
  simp only [bS]
  by_cases ha : 1 ≤ a ∧ a ≤ 5
  · rw [decide_eq_true ha, if_pos rfl, if_pos rfl, impl_in_eq, spec_l01In_eq]
    simp only [bS]
    by_cases hb : 2 ≤ b ∧ b ≤ 5
    · have e1 : IntKind.u64.wrap (b - 1) = b - 1 := by
        simp only [IntKind.wrap, IntKind.bits, IntKind.signed]; simp; omega
      have e2 : shl .i64 1 (b - 1) = ((2 ^ (b.toNat - 1) : Nat) : Int) := by
        rw [show b - 1 = ((b.toNat - 1 : Nat) : Int) by omega, Go.Proofs.Ytekijbcblajjbaa.PT.shl_small (by omega)]
      have h3 := two_le (b.toNat - 1) (by omega)
      have h4 := Nat.two_pow_pos (b.toNat - 1)
      rw [decide_eq_true hb, if_pos rfl, if_pos rfl, half_eq (by omega) (by omega), w64 (n := b - 1) (by omega) (by omega), e1, e2, if_pos (show 0 ≤ b - 1 by omega)]
      simp only [bS]
      rw [w64 (n := ((2 ^ (b.toNat - 1) : Nat) : Int) - 1) (by omega) (by omega), impl_in_eq, spec_l01In_eq]
      simp only [bS]
      by_cases hc : 0 ≤ c ∧ c ≤ ((2 ^ (b.toNat - 1) : Nat) : Int) - 1
      · have l3 := l10List_eq (l := x) (s := a.toNat) (t := b.toNat) (by omega) (by omega) (k := k + 1) (by omega)
        have l4 := l10List_eq (l := y) (s := a.toNat) (t := b.toNat) (by omega) (by omega) (k := k + 1) (by omega)
        have l5 := l10List_eq (l := z) (s := a.toNat) (t := b.toNat) (by omega) (by omega) (k := k + 1) (by omega)
        rw [show ((a.toNat : Nat) : Int) = a by omega, show ((b.toNat : Nat) : Int) = b by omega] at l3 l4 l5
        rw [decide_eq_true hc, if_pos rfl, Bool.not_true, mats_impl (s := a.toNat) (t := b.toNat) (by omega) (by omega) hx hy hz (by omega) a b c (by omega) (by omega), l3, l4, l5]
        simp only [bS, Bool.true_and]
        refine ⟨trivial, ?_⟩
        unfold mat3
        cases matOK ((2 ^ a.toNat : Nat) : Int) ((2 ^ b.toNat : Nat) : Int) x <;> cases matOK ((2 ^ a.toNat : Nat) : Int) ((2 ^ b.toNat : Nat) : Int) y <;> cases matOK ((2 ^ a.toNat : Nat) : Int) ((2 ^ b.toNat : Nat) : Int) z <;> rfl
      · rw [decide_eq_false hc]
        simp only [Bool.not_false, impl_SystemOK.j0, if_true, Bool.false_and, Bool.true_and, Bool.false_eq_true, if_false]
        exact ⟨trivial, trivial⟩
    · rw [decide_eq_false hb]
      simp only [impl_SystemOK.j0, if_true, Bool.false_and, Bool.true_and, Bool.false_eq_true, if_false]
      exact ⟨trivial, trivial⟩
  · rw [decide_eq_false ha]
    simp only [impl_SystemOK.j0, if_true, Bool.false_and, Bool.false_eq_true, if_false]
    exact ⟨trivial, trivial⟩
theorem sysB_iff {a b c : Int} {x y z : List S53} (h : sysB a b c x y z = true) : (1 ≤ a ∧ a ≤ 5) ∧ (2 ≤ b ∧ b ≤ 5) ∧ (0 ≤ c ∧ c ≤ ((2 ^ (b.toNat - 1) : Nat) : Int) - 1) ∧ mat3 ((2 ^ a.toNat : Nat) : Int) ((2 ^ b.toNat : Nat) : Int) x y z = true := by
  unfold sysB at h
  simp only [Bool.and_eq_true, decide_eq_true_eq] at h
  exact h
end Go.Proofs.Ytekijbcblajjbaa.PT
end
section
/- A system's vector: the loops of the one side come to the splices of the other. -/
namespace Go.Proofs.Ytekijbcblajjbaa.PT
open Go.RowKit Go.Proofs.YtekijbcblajjbaaW.PrintWords Go.Proofs.YtekijbcblajjbaaW.PrintLast Go.Proofs.YtekijbcblajjbaaW.PrintMore
set_option linter.unusedVariables false
set_option linter.unusedSimpArgs false
theorem splice_nil (y : List Int) (off : Nat) : splice y off [] = y := by
  unfold splice; rw [List.nil_append, List.length_nil, Nat.add_zero, List.take_append_drop]
theorem splice_set (y x : List Int) (off i : Nat) (hi : i < x.length) (h : off + x.length ≤ y.length) : (splice y off (x.take i)).set (off + i) x[i] = splice y off (x.take (i + 1)) := by
  have l1 : (x.take i).length = i := by rw [List.length_take]; omega
  have l2 : (x.take (i + 1)).length = i + 1 := by rw [List.length_take]; omega
  have l3 : (y.take off).length = off := by rw [List.length_take]; omega
  unfold splice
  rw [l1, l2, List.set_append_right _ _ (by omega), l3, Nat.add_sub_cancel_left, List.set_append_right _ _ (by omega), l1, Nat.sub_self, List.drop_eq_getElem_cons (by omega), List.set_cons_zero, List.take_succ_eq_append_getElem hi, List.append_assoc]
  rfl
theorem splice_len (y x : List Int) (off : Nat) (h : off + x.length ≤ y.length) : (splice y off x).length = y.length := length_splice y off x h
theorem vec_l1 (x : List Int) (hx : x.length ≤ 4096) (h : Nat) (hh : h ≤ 4096) (y : List Int) (hy : h + x.length ≤ y.length) (hy2 : y.length ≤ 4096) (d : Nat) : ∀ (k i : Nat), i + d = x.length → d < k →
    spec_l10Vector.l1 k x (h : Int) (splice y h (x.take i)) i = some (splice y h x) := by
  induction d with
  | zero =>
    intro k i hi hk
    obtain ⟨k, rfl⟩ : ∃ m, k = m + 1 := ⟨k - 1, by omega⟩
    simp only [spec_l10Vector.l1]
    rw [if_neg (by omega), List.take_of_length_le (by omega)]
  | succ d ih =>
    intro k i hi hk
    obtain ⟨k, rfl⟩ : ∃ m, k = m + 1 := ⟨k - 1, by omega⟩
    have hlt : i < x.length := by omega
    have hl : (splice y h (x.take i)).length = y.length := splice_len _ _ _ (by rw [List.length_take]; omega)
    simp only [spec_l10Vector.l1]
    rw [w64 (n := (h : Int) + i) (by omega) (by omega), if_pos (by omega), if_pos (by omega), if_pos (by omega), if_pos (by omega), rdI hlt, show ((h : Int) + i).toNat = h + i by omega, splice_set y x h i hlt hy, w64 (by omega) (by omega), show (i : Int) + 1 = ((i + 1 : Nat) : Int) by omega]
    exact ih k (i + 1) (by omega) (by omega)
theorem vec_l0 (x z : List Int) (hx : x.length ≤ 4096) (h : Nat) (y : List Int) (hy : 1 + x.length ≤ y.length) (hy2 : y.length ≤ 4096) (d : Nat) : ∀ (k i : Nat), i + d = x.length → d < k →
    spec_l10Vector.l0 k x z (h : Int) (splice y 1 (x.take i)) i = spec_l10Vector.l1 (k - d - 1) z (h : Int) (splice y 1 x) 0 := by
  induction d with
  | zero =>
    intro k i hi hk
    obtain ⟨k, rfl⟩ : ∃ m, k = m + 1 := ⟨k - 1, by omega⟩
    simp only [spec_l10Vector.l0]
    rw [if_neg (by omega), List.take_of_length_le (by omega)]
    rfl
  | succ d ih =>
    intro k i hi hk
    obtain ⟨k, rfl⟩ : ∃ m, k = m + 1 := ⟨k - 1, by omega⟩
    have hlt : i < x.length := by omega
    have hl : (splice y 1 (x.take i)).length = y.length := splice_len _ _ _ (by rw [List.length_take]; omega)
    simp only [spec_l10Vector.l0]
    rw [w64 (n := 1 + (i : Int)) (by omega) (by omega), if_pos (by omega), if_pos (by omega), if_pos (by omega), if_pos (by omega), rdI hlt, show (1 + (i : Int)).toNat = 1 + i by omega, splice_set y x 1 i hlt hy, w64 (by omega) (by omega), show (i : Int) + 1 = ((i + 1 : Nat) : Int) by omega, ih k (i + 1) (by omega) (by omega)]
    congr 1
    omega
/-- The vector. -/
def vecL (b : Int) (x z : List Int) : List Int := splice (splice ((1 : Int) :: List.replicate (2 ^ b.toNat - 1) 0) 1 x) (2 ^ (b.toNat - 1)) z
theorem two_half {b : Int} (h1 : 1 ≤ b) : 2 ^ b.toNat = 2 * 2 ^ (b.toNat - 1) := by
  obtain ⟨m, hm⟩ : ∃ m, b.toNat = m + 1 := ⟨b.toNat - 1, by omega⟩
  rw [hm, Nat.add_sub_cancel, Nat.pow_succ, Nat.mul_comm]
theorem vecL_length {b : Int} (h1 : 1 ≤ b) (h2 : b ≤ 5) {x z : List Int} (hx : x.length + 1 ≤ 2 ^ b.toNat) (hz : z.length + 2 ^ (b.toNat - 1) ≤ 2 ^ b.toNat) : (vecL b x z).length = 2 ^ b.toNat := by
  have hp := Nat.two_pow_pos b.toNat
  have e0 : ((1 : Int) :: List.replicate (2 ^ b.toNat - 1) 0).length = 2 ^ b.toNat := by rw [List.length_cons, List.length_replicate]; omega
  have e1 : (splice ((1 : Int) :: List.replicate (2 ^ b.toNat - 1) 0) 1 x).length = 2 ^ b.toNat := by rw [splice_len _ _ _ (by omega), e0]
  unfold vecL
  rw [splice_len _ _ _ (by omega), e1]
theorem vector_same {a b c : Int} {x y z : List S53} {u v : List Int} (h1 : 2 ≤ b) (h2 : b ≤ 5) (hu : u.length + 1 ≤ 2 ^ b.toNat) (hv : v.length + 2 ^ (b.toNat - 1) ≤ 2 ^ b.toNat) :
    impl_System_vector.f a b c x y z u v = some (vecL b u v) ∧ ∀ k, 200 < k → spec_l10Vector.f k a b c x y z u v = some (vecL b u v) := by
  have hp := two_le b.toNat (by omega)
  have hp0 := Nat.two_pow_pos (b.toNat - 1)
  have hh := two_half (b := b) (by omega)
  constructor
  · unfold impl_System_vector.f
    rw [if_pos h1, if_pos h2, if_pos hu, if_pos hv]; rfl
  · intro k hk
    have e1 : IntKind.u64.wrap (b - 1) = b - 1 := by
      simp only [IntKind.wrap, IntKind.bits, IntKind.signed]; simp; omega
    have e2 : shl .i64 1 (b - 1) = ((2 ^ (b.toNat - 1) : Nat) : Int) := by
      rw [show b - 1 = ((b.toNat - 1 : Nat) : Int) by omega, Go.Proofs.Ytekijbcblajjbaa.PT.shl_small (by omega)]
    have e3 : wrap64 (2 * ((2 ^ (b.toNat - 1) : Nat) : Int)) = ((2 ^ b.toNat : Nat) : Int) := by rw [w64 (by omega) (by omega), hh]; omega
    have e0 : ((1 : Int) :: List.replicate (2 ^ b.toNat - 1) 0).length = 2 ^ b.toNat := by rw [List.length_cons, List.length_replicate]; omega
    have es : (splice ((1 : Int) :: List.replicate (2 ^ b.toNat - 1) 0) 1 u).length = 2 ^ b.toNat := by rw [splice_len _ _ _ (by omega), e0]
    have er : (List.replicate (2 ^ b.toNat) (0 : Int)).set 0 1 = (1 : Int) :: List.replicate (2 ^ b.toNat - 1) 0 := by
      obtain ⟨m, hm⟩ : ∃ m, 2 ^ b.toNat = m + 1 := ⟨2 ^ b.toNat - 1, by omega⟩
      rw [hm, List.replicate_succ, List.set_cons_zero, Nat.add_sub_cancel]
    unfold spec_l10Vector.f
    rw [w64 (n := b - 1) (by omega) (by omega), e1, e2, e3, if_pos (show 0 ≤ b - 1 by omega), if_pos (show (0 : Int) ≤ ((2 ^ b.toNat : Nat) : Int) by omega), if_pos (by omega)]
    simp only [bS]
    rw [Int.toNat_natCast, if_pos (by rw [List.length_replicate]; omega), show (0 : Int).toNat = 0 from rfl, er]
    have g := vec_l0 u v (by omega) (2 ^ (b.toNat - 1)) ((1 : Int) :: List.replicate (2 ^ b.toNat - 1) 0) (by omega) (by omega) u.length k 0 (by omega) (by omega)
    rw [List.take_zero, splice_nil, Int.natCast_zero] at g
    rw [g]
    have g2 := vec_l1 v (by omega) (2 ^ (b.toNat - 1)) (by omega) (splice ((1 : Int) :: List.replicate (2 ^ b.toNat - 1) 0) 1 u) (by omega) (by omega) v.length (k - u.length - 1) 0 (by omega) (by omega)
    rw [List.take_zero, splice_nil, Int.natCast_zero] at g2
    exact g2
theorem VectorOf_same (a b c : Int) (x y z : List S53) (u v : List Int) (hx : x.length ≤ 1048576) (hy : y.length ≤ 1048576) (hz : z.length ≤ 1048576) (hu : u.length ≤ 1048576) (hv : v.length ≤ 1048576) :
    ∃ r : List Int × Int, r.1.length ≤ 4096 ∧ ∀ k, 1060000 < k → impl_VectorOf.f k a b c x y z u v = some r ∧ spec_VectorOf.f k a b c x y z u v = some r := by
  by_cases h1 : (u.length : Int) > 4096
  · refine ⟨([], 2), by simp, fun k hk => ?_⟩
    obtain ⟨k, rfl⟩ : ∃ m, k = m + 1 := ⟨k - 1, by omega⟩
    unfold impl_VectorOf.f spec_VectorOf.f
    rw [if_pos h1, if_pos h1]
    simp only [impl_VectorOf.j0, spec_VectorOf.j0, if_true]
    exact ⟨trivial, trivial⟩
  by_cases h2 : (v.length : Int) > 4096
  · refine ⟨([], 2), by simp, fun k hk => ?_⟩
    obtain ⟨k, rfl⟩ : ∃ m, k = m + 1 := ⟨k - 1, by omega⟩
    unfold impl_VectorOf.f spec_VectorOf.f
    rw [if_neg h1, if_neg h1, decide_eq_true h2]
    simp only [impl_VectorOf.j0, spec_VectorOf.j0, if_true]
    exact ⟨trivial, trivial⟩
  have start : ∀ k, 1055000 < k → ∃ g : Bool, (g = true ↔ ¬ (sysB a b c x y z = true ∧ fieldsB u = true ∧ fieldsB v = true)) ∧ impl_VectorOf.f (k + 1 + 1) a b c x y z u v = impl_VectorOf.j1 (k + 1) u v g a b c x y z ∧ spec_VectorOf.f (k + 1 + 1) a b c x y z u v = spec_VectorOf.j1 (k + 1) u v g a b c x y z := by
    intro k hk
    obtain ⟨e1, e2⟩ := SystemOK_eq (a := a) (b := b) (c := c) hx hy hz (k := k + 1) (by omega)
    unfold impl_VectorOf.f spec_VectorOf.f
    rw [if_neg h1, if_neg h1, decide_eq_false h2]
    simp only [impl_VectorOf.j0, spec_VectorOf.j0, Bool.false_eq_true, if_false]
    rw [e1, e2]
    simp only [bS]
    cases hs : sysB a b c x y z
    · simp only [Bool.false_eq_true, if_false]
      exact ⟨true, by simp, rfl, rfl⟩
    · simp only [if_true]
      rw [are_fields_eq, l10Fields_eq hu (by omega)]
      simp only [bS]
      cases hfu : fieldsB u
      · simp only [Bool.false_eq_true, if_false]
        exact ⟨true, by simp, rfl, rfl⟩
      · simp only [if_true]
        rw [are_fields_eq, l10Fields_eq hv (by omega)]
        simp only [bS]
        exact ⟨!fieldsB v, by cases fieldsB v <;> simp, rfl, rfl⟩
  by_cases hok : sysB a b c x y z = true ∧ fieldsB u = true ∧ fieldsB v = true
  · obtain ⟨ha, hb, hc, _⟩ := sysB_iff hok.1
    have hp := two_le b.toNat (by omega)
    have hp0 := Nat.two_pow_pos (b.toNat - 1)
    have hh := two_half (b := b) (by omega)
    have e1 : IntKind.u64.wrap (b - 1) = b - 1 := by
      simp only [IntKind.wrap, IntKind.bits, IntKind.signed]; simp; omega
    have e2 : shl .i64 1 (b - 1) = ((2 ^ (b.toNat - 1) : Nat) : Int) := by
      rw [show b - 1 = ((b.toNat - 1 : Nat) : Int) by omega, Go.Proofs.Ytekijbcblajjbaa.PT.shl_small (by omega)]
    have step : ∀ k, 1055000 < k → impl_VectorOf.f (k + 1 + 1) a b c x y z u v = (if (u.length : Int) = c then (if (v.length : Int) > ((2 ^ (b.toNat - 1) : Nat) : Int) then some ([], 8) else (impl_System_vector.f a b c x y z u v).bind fun t => some (t, (0 : Int))) else some ([], 8)) ∧
        spec_VectorOf.f (k + 1 + 1) a b c x y z u v = (if (u.length : Int) = c then (if (v.length : Int) > ((2 ^ (b.toNat - 1) : Nat) : Int) then some ([], 8) else (spec_l10Vector.f k a b c x y z u v).bind fun t => some (t, (0 : Int))) else some ([], 8)) := by
      intro k hk
      obtain ⟨g, hg, q1, q2⟩ := start k hk
      have hgf : g = false := by
        cases g
        · rfl
        · exact absurd hok (hg.1 rfl)
      subst hgf
      rw [q1, q2]
      simp only [impl_VectorOf.j1, spec_VectorOf.j1, Bool.false_eq_true, if_false]
      rw [half_eq (by omega) (by omega), w64 (n := b - 1) (by omega) (by omega), e1, e2, if_pos (show 0 ≤ b - 1 by omega)]
      simp only [bS]
      exact ⟨trivial, trivial⟩
    by_cases h3 : (u.length : Int) = c
    · by_cases h4 : (v.length : Int) > ((2 ^ (b.toNat - 1) : Nat) : Int)
      · refine ⟨([], 8), by simp, fun k hk => ?_⟩
        obtain ⟨k, rfl⟩ : ∃ m, k = m + 1 + 1 := ⟨k - 2, by omega⟩
        obtain ⟨q1, q2⟩ := step k (by omega)
        rw [q1, q2, if_pos h3, if_pos h3, if_pos h4, if_pos h4]; exact ⟨rfl, rfl⟩
      · obtain ⟨f1, f2⟩ := vector_same (a := a) (b := b) (c := c) (x := x) (y := y) (z := z) (u := u) (v := v) (by omega) (by omega) (by omega) (by omega)
        have hvl := vecL_length (b := b) (x := u) (z := v) (by omega) (by omega) (by omega) (by omega)
        refine ⟨(vecL b u v, 0), by show (vecL b u v).length ≤ 4096; omega, fun k hk => ?_⟩
        obtain ⟨k, rfl⟩ : ∃ m, k = m + 1 + 1 := ⟨k - 2, by omega⟩
        obtain ⟨q1, q2⟩ := step k (by omega)
        rw [q1, q2, if_pos h3, if_pos h3, if_neg h4, if_neg h4, f1, f2 k (by omega)]; exact ⟨rfl, rfl⟩
    · refine ⟨([], 8), by simp, fun k hk => ?_⟩
      obtain ⟨k, rfl⟩ : ∃ m, k = m + 1 + 1 := ⟨k - 2, by omega⟩
      obtain ⟨q1, q2⟩ := step k (by omega)
      rw [q1, q2, if_neg h3, if_neg h3]; exact ⟨rfl, rfl⟩
  · refine ⟨([], 1), by simp, fun k hk => ?_⟩
    obtain ⟨k, rfl⟩ : ∃ m, k = m + 1 + 1 := ⟨k - 2, by omega⟩
    obtain ⟨g, hg, q1, q2⟩ := start k (by omega)
    have hgt : g = true := hg.2 hok
    subst hgt
    rw [q1, q2]
    simp only [impl_VectorOf.j1, spec_VectorOf.j1, if_true]
    exact ⟨trivial, trivial⟩
/-! marks -/
theorem markE_l0 (d : Nat) : ∀ (k i : Nat) (a : List S53) (c : Int), i + d = a.length → d < k → a.length ≤ 1048576 → 0 ≤ c → c + 3 * (d : Int) ≤ 100000000 → ∃ v l, laws_markEntryS.l0 k a c i = some (v, l) ∧ 0 ≤ v ∧ v ≤ c + 3 * (d : Int) := by
  induction d with
  | zero =>
    intro k i a c hi hk ha h0 h1
    obtain ⟨k, rfl⟩ : ∃ m, k = m + 1 := ⟨k - 1, by omega⟩
    simp only [laws_markEntryS.l0]
    rw [if_neg (by omega)]
    exact ⟨_, _, rfl, h0, by omega⟩
  | succ d ih =>
    intro k i a c hi hk ha h0 h1
    obtain ⟨k, rfl⟩ : ∃ m, k = m + 1 := ⟨k - 1, by omega⟩
    simp only [laws_markEntryS.l0]
    rw [if_pos (by omega), if_pos (by omega)]
    simp only [bS]
    rw [w64 (n := c + 1) (by omega) (by omega), w64 (n := c + 1 + 1) (by omega) (by omega), w64 (n := c + 1 + 1 + 1) (by omega) (by omega), w64 (n := (i : Int) + 1) (by omega) (by omega), show (i : Int) + 1 = ((i + 1 : Nat) : Int) by omega]
    have key : ∀ L : List S53, L.length = a.length → ∃ v l, laws_markEntryS.l0 k L (c + 1 + 1 + 1) ((i + 1 : Nat) : Int) = some (v, l) ∧ 0 ≤ v ∧ v ≤ c + 3 * ((d + 1 : Nat) : Int) := by
      intro L hL
      obtain ⟨v, l, e, g0, g1⟩ := ih k (i + 1) L (c + 1 + 1 + 1) (by omega) (by omega) (by omega) (by omega) (by omega)
      exact ⟨v, l, e, g0, by omega⟩
    exact key _ (by simp only [List.length_set])
theorem markSystem_ok {a b c : Int} {x y z : List S53} (h : x.length + y.length + z.length ≤ 1048576) {k : Nat} (hk : 1048576 < k) : ∃ v r, laws_markSystem.f k a b c x y z 1 = some (v, r) ∧ 0 ≤ v ∧ v ≤ 4000000 := by
  obtain ⟨v1, m1, e1, g1, u1⟩ := markE_l0 x.length k 0 x 1 (by omega) (by omega) (by omega) (by omega) (by omega)
  obtain ⟨v2, m2, e2, g2, u2⟩ := markE_l0 y.length k 0 y v1 (by omega) (by omega) (by omega) (by omega) (by omega)
  obtain ⟨v3, m3, e3, g3, u3⟩ := markE_l0 z.length k 0 z v2 (by omega) (by omega) (by omega) (by omega) (by omega)
  rw [Int.natCast_zero] at e1 e2 e3
  unfold laws_markSystem.f laws_markEntryS.f
  rw [e1]
  simp only [bS]
  rw [e2]
  simp only [bS]
  rw [e3]
  simp only [bS]
  exact ⟨v3, _, rfl, g3, by omega⟩
end Go.Proofs.Ytekijbcblajjbaa.PT
end
section
/- A system's vector, alike on both sides, held apart; the arguments stay as they were. -/
namespace Go.Proofs.Ytekijbcblajjbaa.fnExactVectorOf
open Go.Proofs.Ytekijbcblajjbaa.PT Go.RowKit Go.Proofs.YtekijbcblajjbaaO
set_option linter.unusedSimpArgs false
theorem pureFnExactVectorOf : Pure := by
  intro x u v hx hu hv
  have hx3 : x.f3.length ≤ 9223372036854775807 := hx.2.2.2.1.1
  have hx4 : x.f4.length ≤ 9223372036854775807 := hx.2.2.2.2.1.1
  have hx5 : x.f5.length ≤ 9223372036854775807 := hx.2.2.2.2.2.1
  by_cases h0 : (u.length : Int) > 1048576
  · refine ⟨1, ?_⟩
    unfold laws_FnExactVectorOf.f
    rw [if_pos h0]
  by_cases h1 : (v.length : Int) > 1048576
  · refine ⟨1, ?_⟩
    unfold laws_FnExactVectorOf.f
    rw [if_neg h0, if_pos h1]
  by_cases h : x.f3.length + x.f4.length + x.f5.length ≤ 1048576
  · have h3 := convEntryS_length x.f3
    have h4 := convEntryS_length x.f4
    have h5 := convEntryS_length x.f5
    refine ⟨2000000 + 1 + 1 + 1, ?_⟩
    generalize hK : 2000000 = K
    obtain ⟨r, hr, hsame⟩ := VectorOf_same x.f0 x.f1 x.f2 (convEntryS x.f3) (convEntryS x.f4) (convEntryS x.f5) u v (by omega) (by omega) (by omega) (by omega) (by omega)
    obtain ⟨e1, e2⟩ := hsame (K + 1 + 1 + 1) (by omega)
    obtain ⟨e3, _⟩ := hsame (K + 1) (by omega)
    obtain ⟨vm, rm, em, hv0, hv1⟩ := markSystem_ok (a := x.f0) (b := x.f1) (c := x.f2) (x := convEntryS x.f3) (y := convEntryS x.f4) (z := convEntryS x.f5) (by omega) (k := K + 1 + 1) (by omega)
    unfold laws_FnExactVectorOf.f
    rw [if_neg h0, if_neg h1, szSystem_fit h]
    simp only [bS]
    rw [if_neg (by omega), toSystem_eq h (by omega)]
    simp only [bS]
    rw [toIntS_eq (l := u) (by omega) (by omega), toIntS_eq (l := v) (by omega) (by omega)]
    simp only [bS]
    rw [e2, e1]
    simp only [bS]
    rw [eqIntS_refl (a := r.1) (by omega) (by omega)]
    simp only [bS, if_true, bne_self_eq_false, laws_FnExactVectorOf.j0, Bool.false_eq_true, if_false]
    rw [toSystem_eq h (by omega)]
    simp only [bS]
    rw [eqSystem_refl (by omega) (by omega) (by omega) (by omega)]
    simp only [bS, if_true]
    rw [toIntS_eq (l := u) (by omega) (by omega)]
    simp only [bS]
    rw [eqIntS_refl (a := u) (by omega) (by omega)]
    simp only [bS, if_true]
    rw [toIntS_eq (l := v) (by omega) (by omega)]
    simp only [bS]
    rw [eqIntS_refl (a := v) (by omega) (by omega)]
    simp only [bS, if_true]
    rw [em]
    simp only [bS]
    rw [markIntS_eq (a := u) hv0 (by omega) (by omega) (by omega)]
    simp only [bS]
    rw [markIntS_eq (a := v) (by omega) (by omega) (by omega) (by omega)]
    simp only [bS]
    rw [if_neg (by omega), eqIntS_refl (a := r.1) (by omega) (by omega)]
    simp only [bS, if_true, bne_self_eq_false, laws_FnExactVectorOf.j1, Bool.false_eq_true, if_false]
    rw [markIntS_eq (a := r.1) (by omega) (by omega) (by omega) (by omega)]
    simp only [bS]
    rw [heldIntS_eq (n := r.1.length) (by omega) (by omega) (by omega) (by omega)]
    simp only [bS]
    rw [if_neg (by omega), if_true, toSystem_eq h (by omega)]
    simp only [bS]
    rw [toIntS_eq (l := u) (by omega) (by omega), toIntS_eq (l := v) (by omega) (by omega)]
    simp only [bS]
    rw [e3]
    simp only [bS]
    rw [eqIntS_refl (a := r.1) (by omega) (by omega)]
    simp only [bS, if_true, bne_self_eq_false, laws_FnExactVectorOf.j2, Bool.false_eq_true, if_false]
    rw [heldIntS_eq (n := r.1.length) (by omega) (by omega) (by omega) (by omega)]
    simp only [bS]
    rw [if_neg (by omega), if_true]
  · refine ⟨1, ?_⟩
    unfold laws_FnExactVectorOf.f
    rw [if_neg h0, if_neg h1, szSystem_big hx3 hx4 hx5 h]
    simp
end Go.Proofs.Ytekijbcblajjbaa.fnExactVectorOf
end
