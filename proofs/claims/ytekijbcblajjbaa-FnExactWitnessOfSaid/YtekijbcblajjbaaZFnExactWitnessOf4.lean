/- Part 4 of the proof of FnExactWitnessOf: what functions compute, shown step by step, and what that says (the claim's last text states the law). -/
import Derived.Test.YtekijbcblajjbaaProg
import Derived.Test.YtekijbcblajjbaaVMore
import Derived.Test.YtekijbcblajjbaaVWords
import Derived.Test.YtekijbcblajjbaaVLast
import Derived.Test.YtekijbcblajjbaaVTab
import Derived.Test.YtekijbcblajjbaaVQPut
import Derived.Test.YtekijbcblajjbaaVApart
import Derived.Test.YtekijbcblajjbaaVArr
import Derived.Test.YtekijbcblajjbaaVZeros
import Derived.Test.YtekijbcblajjbaaVFoot
import Derived.Test.YtekijbcblajjbaaVKept
import Derived.Test.YtekijbcblajjbaaVShare
import Derived.Test.YtekijbcblajjbaaVN
import Derived.Test.YtekijbcblajjbaaVFootNe
import Derived.Test.YtekijbcblajjbaaVAt
import Derived.Test.YtekijbcblajjbaaVRepsOne
import Derived.Test.YtekijbcblajjbaaVGuard
import Derived.Test.YtekijbcblajjbaaVNEv
import Derived.Test.YtekijbcblajjbaaRows
import Derived.JoinedOf
import Derived.WalkKit
import Derived.ProofKit
import Derived.Below
import Derived.Deep.Draws
import Derived.Deep.AppendLies
import Derived.Maps.AppendAt
import Derived.OwnWalk
import Derived.Laws.BytesArg
import Derived.Laws.MakeOwn
import Derived.Laws.OwnMore
import Derived.Deep.OwnRows
import Derived.Tactics
import Derived.Lib.ConvBytes
import Derived.Laws.Slices
import Derived.KernelRfl
import Derived.RowKit3
import Derived.Deep.LoopGhost
import Derived.Deep.QuietTactic
import Derived.BigQuiet
import Derived.WideLaws
import Derived.Deep.DeepCutAuto
import Derived.Deep.CutBlock
import Derived.Deep.RegionHeld3
import Derived.Laws.Rows
import Derived.Lib.AppendStr
import Derived.ArgAppend
import Derived.Laws.IdiomCopy
import Derived.OrdersHeld
import Derived.Laws.BitsLemmas
import Derived.RowKit
import Derived.Lib.BufferMore
import Derived.Lib.SliceRun
import Derived.OpenShut
import Derived.ShutString
import Derived.ChangeOld
import Derived.SizedLaws
import Derived.Deep.Slices
import Derived.ChangeArms
import Derived.Test.YtekijbcblajjbaaZFnExactWitnessOf3
section
namespace Go.Proofs.Ytekijbcblajjbaa.PT
open Go.RowKit Go.Proofs.YtekijbcblajjbaaW.PrintWords Go.Proofs.YtekijbcblajjbaaW.PrintLast Go.Proofs.YtekijbcblajjbaaW.PrintMore
attribute [local go_sem] max2_int min2_int max_two min_two max_three min_three max_four min_four   -- for this text's walks alone
set_option linter.unusedVariables false
set_option linter.unusedSimpArgs false

/-! ### laws_FnExactWitnessOf: function 9 -/
mutual
def laws_FnExactWitnessOf.j0 : Nat → List Int → List Int → List Int → List Int → Int → List Int → List Int → List Int → List Int → Int → Bool → List (S117) → List (S115) → Option (Bool)
 | 0, _, _, _, _, _, _, _, _, _, _, _, _, _ => none
 | k + 1, x1, x2, x8, x9, x10, x12, x13, x14, x15, x16, x73, x102000, x123000 => if x73 = true then (some false) else ((laws_toCircuit.f k x102000).bind fun t138 => ((laws_eqCircuit.f k x123000 t138).bind fun t141 => (if t141 = true then ((laws_toIntS.f k x1).bind fun t142 => ((laws_eqIntS.f k x12 t142).bind fun t145 => (if t145 = true then ((laws_toIntS.f k x2).bind fun t146 => ((laws_eqIntS.f k x13 t146).bind fun t149 => (if t149 = true then ((laws_markCircuit.f k x123000 1).bind fun bt150 => ((laws_markIntS.f k x12 bt150.1).bind fun bt152 => ((laws_markIntS.f k x13 bt152.1).bind fun bt154 => (if bt154.1 < 0 then (laws_FnExactWitnessOf.j1 k x1 x2 x8 x9 x10 x14 x15 true x102000) else ((laws_eqIntS.f k x14 x8).bind fun t156 => (if t156 = true then ((laws_eqIntS.f k x15 x9).bind fun t157 => (if t157 = true then (laws_FnExactWitnessOf.j1 k x1 x2 x8 x9 x10 x14 x15 (x16 != x10) x102000) else (laws_FnExactWitnessOf.j1 k x1 x2 x8 x9 x10 x14 x15 true x102000))) else (laws_FnExactWitnessOf.j1 k x1 x2 x8 x9 x10 x14 x15 true x102000))))))) else (some false)))) else (some false)))) else (some false))))
def laws_FnExactWitnessOf.j1 : Nat → List Int → List Int → List Int → List Int → Int → List Int → List Int → Bool → List (S117) → Option (Bool)
 | 0, _, _, _, _, _, _, _, _, _ => none
 | k + 1, x1, x2, x8, x9, x10, x14, x15, x116, x102000 => if x116 = true then (some false) else ((laws_markIntS.f k x14 1).bind fun bt158 => ((laws_markIntS.f k x15 bt158.1).bind fun bt160 => ((laws_heldIntS.f k bt158.2 1).bind fun t162 => (if t162 < 0 then (some false) else ((laws_heldIntS.f k bt160.2 t162).bind fun t163 => (if t163 < 0 then (some false) else (if t163 = bt160.1 then ((laws_toCircuit.f k x102000).bind fun t164 => ((laws_toIntS.f k x1).bind fun t167 => ((laws_toIntS.f k x2).bind fun t170 => ((impl_WitnessOf.f k t164 t167 t170).bind fun bt173 => ((laws_eqIntS.f k bt173.1 x8).bind fun t180 => (if t180 = true then ((laws_eqIntS.f k bt173.2.1 x9).bind fun t181 => (if t181 = true then (laws_FnExactWitnessOf.j2 k bt158.2 bt160.2 bt160.1 (bt173.2.2 != x10)) else (laws_FnExactWitnessOf.j2 k bt158.2 bt160.2 bt160.1 true))) else (laws_FnExactWitnessOf.j2 k bt158.2 bt160.2 bt160.1 true))))))) else (some false))))))))
def laws_FnExactWitnessOf.j2 : Nat → List Int → List Int → Int → Bool → Option (Bool)
 | 0, _, _, _, _ => none
 | k + 1, x14, x15, x18, x161 => if x161 = true then (some false) else ((laws_heldIntS.f k x14 1).bind fun t182 => (if t182 < 0 then (some false) else ((laws_heldIntS.f k x15 t182).bind fun t183 => (if t183 < 0 then (some false) else (if t183 = x18 then (some true) else (some false))))))
end
def laws_FnExactWitnessOf.f (k : Nat) (l0_0 : List (S117)) (l1 : List Int) (l2 : List Int) : Option (Bool) := if (l1.length : Int) > 1048576 then (some true) else (if (l2.length : Int) > 1048576 then (some true) else ((laws_szCircuit.f l0_0 1048576).bind fun t102 => (if t102 < 0 then (some true) else ((laws_toCircuit.f k l0_0).bind fun t103 => ((laws_toIntS.f k l1).bind fun t106 => ((laws_toIntS.f k l2).bind fun t109 => ((spec_WitnessOf.f k t103 t106 t109).bind fun bt112 => ((laws_toCircuit.f k l0_0).bind fun t119 => ((laws_toIntS.f k l1).bind fun t123 => ((laws_toIntS.f k l2).bind fun t126 => ((impl_WitnessOf.f k t119 t123 t126).bind fun bt129 => ((laws_eqIntS.f k bt129.1 bt112.1).bind fun t136 => (if t136 = true then ((laws_eqIntS.f k bt129.2.1 bt112.2.1).bind fun t137 => (if t137 = true then (laws_FnExactWitnessOf.j0 k l1 l2 bt112.1 bt112.2.1 bt112.2.2 t123 t126 bt129.1 bt129.2.1 bt129.2.2 (bt129.2.2 != bt112.2.2) l0_0 t119) else (laws_FnExactWitnessOf.j0 k l1 l2 bt112.1 bt112.2.1 bt112.2.2 t123 t126 bt129.1 bt129.2.1 bt129.2.2 true l0_0 t119))) else (laws_FnExactWitnessOf.j0 k l1 l2 bt112.1 bt112.2.1 bt112.2.2 t123 t126 bt129.1 bt129.2.1 bt129.2.2 true l0_0 t119))))))))))))))
theorem laws_FnExactWitnessOf.mono_l : ∀ k, (∀ y0 y1 y2 y3 y4 y5 y6 y7 y8 y9 y10 y11 y12, LeO (laws_FnExactWitnessOf.j0 k y0 y1 y2 y3 y4 y5 y6 y7 y8 y9 y10 y11 y12) (laws_FnExactWitnessOf.j0 (k + 1) y0 y1 y2 y3 y4 y5 y6 y7 y8 y9 y10 y11 y12)) ∧ (∀ y0 y1 y2 y3 y4 y5 y6 y7 y8, LeO (laws_FnExactWitnessOf.j1 k y0 y1 y2 y3 y4 y5 y6 y7 y8) (laws_FnExactWitnessOf.j1 (k + 1) y0 y1 y2 y3 y4 y5 y6 y7 y8)) ∧ (∀ y0 y1 y2 y3, LeO (laws_FnExactWitnessOf.j2 k y0 y1 y2 y3) (laws_FnExactWitnessOf.j2 (k + 1) y0 y1 y2 y3))
 | 0 => ⟨fun _ _ _ _ _ _ _ _ _ _ _ _ _ r h => by simp [laws_FnExactWitnessOf.j0] at h, fun _ _ _ _ _ _ _ _ _ r h => by simp [laws_FnExactWitnessOf.j1] at h, fun _ _ _ _ r h => by simp [laws_FnExactWitnessOf.j2] at h⟩
 | k + 1 => by
  obtain ⟨ih0, ih1, ih2⟩ := laws_FnExactWitnessOf.mono_l k
  refine ⟨?_, ?_, ?_⟩
  ·
   intro y0 y1 y2 y3 y4 y5 y6 y7 y8 y9 y10 y11 y12
   unfold laws_FnExactWitnessOf.j0
   repeat' first
   | (with_reducible exact ih0 _ _ _ _ _ _ _ _ _ _ _ _ _)
   | (with_reducible exact ih1 _ _ _ _ _ _ _ _ _)
   | (with_reducible exact ih2 _ _ _ _)
   | (with_reducible exact impl_WitnessOf.mono _ _ _ _)
   | (with_reducible exact laws_eqCircuit.mono _ _ _)
   | (with_reducible exact laws_eqIntS.mono _ _ _)
   | (with_reducible exact laws_heldIntS.mono _ _ _)
   | (with_reducible exact laws_markCircuit.mono _ _ _)
   | (with_reducible exact laws_markIntS.mono _ _ _)
   | (with_reducible exact laws_toCircuit.mono _ _)
   | (with_reducible exact laws_toIntS.mono _ _)
   | (with_reducible exact spec_WitnessOf.mono _ _ _ _)
   | (with_reducible exact LeO.refl _)
   | (with_reducible exact LeO.none _)
   | (with_reducible refine LeO.ite ?_ ?_)
   | (with_reducible refine LeO.bind ?_ (fun _ => ?_))
   | exact ih0 _ _ _ _ _ _ _ _ _ _ _ _ _
   | exact ih1 _ _ _ _ _ _ _ _ _
   | exact ih2 _ _ _ _
   | exact impl_WitnessOf.mono _ _ _ _
   | exact laws_eqCircuit.mono _ _ _
   | exact laws_eqIntS.mono _ _ _
   | exact laws_heldIntS.mono _ _ _
   | exact laws_markCircuit.mono _ _ _
   | exact laws_markIntS.mono _ _ _
   | exact laws_toCircuit.mono _ _
   | exact laws_toIntS.mono _ _
   | exact spec_WitnessOf.mono _ _ _ _
   | exact LeO.none _
   | refine LeO.ite ?_ ?_
   | refine LeO.bind ?_ (fun _ => ?_)
  ·
   intro y0 y1 y2 y3 y4 y5 y6 y7 y8
   unfold laws_FnExactWitnessOf.j1
   repeat' first
   | (with_reducible exact ih0 _ _ _ _ _ _ _ _ _ _ _ _ _)
   | (with_reducible exact ih1 _ _ _ _ _ _ _ _ _)
   | (with_reducible exact ih2 _ _ _ _)
   | (with_reducible exact impl_WitnessOf.mono _ _ _ _)
   | (with_reducible exact laws_eqCircuit.mono _ _ _)
   | (with_reducible exact laws_eqIntS.mono _ _ _)
   | (with_reducible exact laws_heldIntS.mono _ _ _)
   | (with_reducible exact laws_markCircuit.mono _ _ _)
   | (with_reducible exact laws_markIntS.mono _ _ _)
   | (with_reducible exact laws_toCircuit.mono _ _)
   | (with_reducible exact laws_toIntS.mono _ _)
   | (with_reducible exact spec_WitnessOf.mono _ _ _ _)
   | (with_reducible exact LeO.refl _)
   | (with_reducible exact LeO.none _)
   | (with_reducible refine LeO.ite ?_ ?_)
   | (with_reducible refine LeO.bind ?_ (fun _ => ?_))
   | exact ih0 _ _ _ _ _ _ _ _ _ _ _ _ _
   | exact ih1 _ _ _ _ _ _ _ _ _
   | exact ih2 _ _ _ _
   | exact impl_WitnessOf.mono _ _ _ _
   | exact laws_eqCircuit.mono _ _ _
   | exact laws_eqIntS.mono _ _ _
   | exact laws_heldIntS.mono _ _ _
   | exact laws_markCircuit.mono _ _ _
   | exact laws_markIntS.mono _ _ _
   | exact laws_toCircuit.mono _ _
   | exact laws_toIntS.mono _ _
   | exact spec_WitnessOf.mono _ _ _ _
   | exact LeO.none _
   | refine LeO.ite ?_ ?_
   | refine LeO.bind ?_ (fun _ => ?_)
  ·
   intro y0 y1 y2 y3
   unfold laws_FnExactWitnessOf.j2
   repeat' first
   | (with_reducible exact ih0 _ _ _ _ _ _ _ _ _ _ _ _ _)
   | (with_reducible exact ih1 _ _ _ _ _ _ _ _ _)
   | (with_reducible exact ih2 _ _ _ _)
   | (with_reducible exact impl_WitnessOf.mono _ _ _ _)
   | (with_reducible exact laws_eqCircuit.mono _ _ _)
   | (with_reducible exact laws_eqIntS.mono _ _ _)
   | (with_reducible exact laws_heldIntS.mono _ _ _)
   | (with_reducible exact laws_markCircuit.mono _ _ _)
   | (with_reducible exact laws_markIntS.mono _ _ _)
   | (with_reducible exact laws_toCircuit.mono _ _)
   | (with_reducible exact laws_toIntS.mono _ _)
   | (with_reducible exact spec_WitnessOf.mono _ _ _ _)
   | (with_reducible exact LeO.refl _)
   | (with_reducible exact LeO.none _)
   | (with_reducible refine LeO.ite ?_ ?_)
   | (with_reducible refine LeO.bind ?_ (fun _ => ?_))
   | exact ih0 _ _ _ _ _ _ _ _ _ _ _ _ _
   | exact ih1 _ _ _ _ _ _ _ _ _
   | exact ih2 _ _ _ _
   | exact impl_WitnessOf.mono _ _ _ _
   | exact laws_eqCircuit.mono _ _ _
   | exact laws_eqIntS.mono _ _ _
   | exact laws_heldIntS.mono _ _ _
   | exact laws_markCircuit.mono _ _ _
   | exact laws_markIntS.mono _ _ _
   | exact laws_toCircuit.mono _ _
   | exact laws_toIntS.mono _ _
   | exact spec_WitnessOf.mono _ _ _ _
   | exact LeO.none _
   | refine LeO.ite ?_ ?_
   | refine LeO.bind ?_ (fun _ => ?_)
theorem laws_FnExactWitnessOf.mono : ∀ a0 a1 a2 k, LeO (laws_FnExactWitnessOf.f k a0 a1 a2) (laws_FnExactWitnessOf.f (k + 1) a0 a1 a2) := by
 intro a0 a1 a2 k
 obtain ⟨ih0, ih1, ih2⟩ := laws_FnExactWitnessOf.mono_l k
 unfold laws_FnExactWitnessOf.f
 repeat' first
   | (with_reducible exact ih0 _ _ _ _ _ _ _ _ _ _ _ _ _)
   | (with_reducible exact ih1 _ _ _ _ _ _ _ _ _)
   | (with_reducible exact ih2 _ _ _ _)
   | (with_reducible exact impl_WitnessOf.mono _ _ _ _)
   | (with_reducible exact laws_eqCircuit.mono _ _ _)
   | (with_reducible exact laws_eqIntS.mono _ _ _)
   | (with_reducible exact laws_heldIntS.mono _ _ _)
   | (with_reducible exact laws_markCircuit.mono _ _ _)
   | (with_reducible exact laws_markIntS.mono _ _ _)
   | (with_reducible exact laws_toCircuit.mono _ _)
   | (with_reducible exact laws_toIntS.mono _ _)
   | (with_reducible exact spec_WitnessOf.mono _ _ _ _)
   | (with_reducible exact LeO.refl _)
   | (with_reducible exact LeO.none _)
   | (with_reducible refine LeO.ite ?_ ?_)
   | (with_reducible refine LeO.bind ?_ (fun _ => ?_))
   | exact ih0 _ _ _ _ _ _ _ _ _ _ _ _ _
   | exact ih1 _ _ _ _ _ _ _ _ _
   | exact ih2 _ _ _ _
   | exact impl_WitnessOf.mono _ _ _ _
   | exact laws_eqCircuit.mono _ _ _
   | exact laws_eqIntS.mono _ _ _
   | exact laws_heldIntS.mono _ _ _
   | exact laws_markCircuit.mono _ _ _
   | exact laws_markIntS.mono _ _ _
   | exact laws_toCircuit.mono _ _
   | exact laws_toIntS.mono _ _
   | exact spec_WitnessOf.mono _ _ _ _
   | exact LeO.none _
   | refine LeO.ite ?_ ?_
   | refine LeO.bind ?_ (fun _ => ?_)
set_option maxHeartbeats 8000000 in
set_option maxRecDepth 100000 in
theorem laws_FnExactWitnessOf.calls (k : Nat) (A0_0 : Option Addr) (c0_0 : Nat) (l0_0 : List (S117)) (A1 : Option Addr) (c1 : Nat) (l1 : List Int) (A2 : Option Addr) (c2 : Nat) (l2 : List Int) (r : Bool) (w : World) (hr0_0 : Kd.C k117 w A0_0 l0_0.length l0_0) (hc0_0 : l0_0.length ≤ c0_0) (hr1 : Kd.C (Kd.int .i64) w A1 l1.length l1) (hc1 : l1.length ≤ c1) (hr2 : Kd.C (Kd.int .i64) w A2 l2.length l2) (hc2 : l2.length ≤ c2) (hr_ : r = true) (h : laws_FnExactWitnessOf.f k l0_0 l1 l2 = some r) :
  Calls Try.prog 9 #[.agg #[.slice A0_0 l0_0.length c0_0], .slice A1 l1.length c1, .slice A2 l2.length c2] w fun e w' => e = .returned (.bool r) ∧ Below w.heap.size w w' := by
 have hu58 := Try.underlying58
 have hu63 := Try.underlying63
 have HR0_0 := am_ hr0_0
 have HC0_0 := am_ hc0_0
 clear hr0_0 hc0_0
 have HR1 := am_ hr1
 have HC1 := am_ hc1
 clear hr1 hc1
 have HR2 := am_ hr2
 have HC2 := am_ hc2
 clear hr2 hc2
 have HB := am_ (Below.refl w.heap.size w)
 have H : (if (l1.length : Int) > 1048576 then (some true) else (if (l2.length : Int) > 1048576 then (some true) else ((laws_szCircuit.f l0_0 1048576).bind fun t102 => (if t102 < 0 then (some true) else ((laws_toCircuit.f k l0_0).bind fun t103 => ((laws_toIntS.f k l1).bind fun t106 => ((laws_toIntS.f k l2).bind fun t109 => ((spec_WitnessOf.f k t103 t106 t109).bind fun bt112 => ((laws_toCircuit.f k l0_0).bind fun t119 => ((laws_toIntS.f k l1).bind fun t123 => ((laws_toIntS.f k l2).bind fun t126 => ((impl_WitnessOf.f k t119 t123 t126).bind fun bt129 => ((laws_eqIntS.f k bt129.1 bt112.1).bind fun t136 => (if t136 = true then ((laws_eqIntS.f k bt129.2.1 bt112.2.1).bind fun t137 => (if t137 = true then (laws_FnExactWitnessOf.j0 k l1 l2 bt112.1 bt112.2.1 bt112.2.2 t123 t126 bt129.1 bt129.2.1 bt129.2.2 (bt129.2.2 != bt112.2.2) l0_0 t119) else (laws_FnExactWitnessOf.j0 k l1 l2 bt112.1 bt112.2.1 bt112.2.2 t123 t126 bt129.1 bt129.2.1 bt129.2.2 true l0_0 t119))) else (laws_FnExactWitnessOf.j0 k l1 l2 bt112.1 bt112.2.1 bt112.2.2 t123 t126 bt129.1 bt129.2.1 bt129.2.2 true l0_0 t119))))))))))))))) = some r := h
 clear h
 by_cases c4 : (l1.length : Int) > 1048576
 ·
  rw [if_pos c4] at H
  have c4b0 : decide (1048576 < (l1.length : Int)) = true := decide_eq_true c4
  have c4b1 : decide (1048576 < l1.length) = true := decide_eq_true (by omega)
  clear c4
  obtain rfl := Option.some.inj H
  go_enter Try.func9, Try.ntmps9
  go_wp2_with (first | ((with_reducible refine gate_dst (N := 3) rfl ?_); refine box_event ?hg (N := 3) ?hd (cs := #[.slice A0_0 l0_0.length c0_0]) (t := 58) ?hr ?_; (case hd => rfl); (case hg => rfl); (case hr => first | (go_simp; done) | (go_simp; rfl)); intro gb101 hg w5 hbox hb; have n0_ := am_ (below_step qz1_ hb); have n1_ := am_ (hbox); have n2_ := am_ ((by rw [hg]; exact (below_size qz1_) : w.heap.size ≤ gb101)); have n3_ := am_ ((by rw [hg]; exact (below_size qz1_) : w.heap.size ≤ gb101)); clear HB; have HB := n0_; have BK101 := n1_; have GW101 := n2_; have GE101 := n3_; clear n0_ n1_ n2_ n3_; clear hb hbox hg))
  go_ret
  exact ⟨qz5_, qz10_⟩
 ·
  rw [if_neg c4] at H
  have c4b0 : decide (1048576 < (l1.length : Int)) = false := decide_eq_false c4
  have c4b1 : decide (1048576 < l1.length) = false := decide_eq_false (by omega)
  clear c4
  by_cases c6 : (l2.length : Int) > 1048576
  ·
   rw [if_pos c6] at H
   have c6b0 : decide (1048576 < (l2.length : Int)) = true := decide_eq_true c6
   have c6b1 : decide (1048576 < l2.length) = true := decide_eq_true (by omega)
   clear c6
   obtain rfl := Option.some.inj H
   go_enter Try.func9, Try.ntmps9
   go_wp2_with (first | ((with_reducible refine gate_dst (N := 3) rfl ?_); refine box_event ?hg (N := 3) ?hd (cs := #[.slice A0_0 l0_0.length c0_0]) (t := 58) ?hr ?_; (case hd => rfl); (case hg => rfl); (case hr => first | (go_simp; done) | (go_simp; rfl)); intro gb101 hg w7 hbox hb; have n0_ := am_ (below_step qz1_ hb); have n1_ := am_ (hbox); have n2_ := am_ ((by rw [hg]; exact (below_size qz1_) : w.heap.size ≤ gb101)); have n3_ := am_ ((by rw [hg]; exact (below_size qz1_) : w.heap.size ≤ gb101)); clear HB; have HB := n0_; have BK101 := n1_; have GW101 := n2_; have GE101 := n3_; clear n0_ n1_ n2_ n3_; clear hb hbox hg))
   go_ret
   exact ⟨qz5_, qz10_⟩
  ·
   rw [if_neg c6] at H
   have c6b0 : decide (1048576 < (l2.length : Int)) = false := decide_eq_false c6
   have c6b1 : decide (1048576 < l2.length) = false := decide_eq_false (by omega)
   clear c6
   replace H := Option.bind_eq_some_iff.mp H
   obtain ⟨t102, A80, H⟩ := H
   replace H : (if t102 < 0 then (some true) else ((laws_toCircuit.f k l0_0).bind fun t103 => ((laws_toIntS.f k l1).bind fun t106 => ((laws_toIntS.f k l2).bind fun t109 => ((spec_WitnessOf.f k t103 t106 t109).bind fun bt112 => ((laws_toCircuit.f k l0_0).bind fun t119 => ((laws_toIntS.f k l1).bind fun t123 => ((laws_toIntS.f k l2).bind fun t126 => ((impl_WitnessOf.f k t119 t123 t126).bind fun bt129 => ((laws_eqIntS.f k bt129.1 bt112.1).bind fun t136 => (if t136 = true then ((laws_eqIntS.f k bt129.2.1 bt112.2.1).bind fun t137 => (if t137 = true then (laws_FnExactWitnessOf.j0 k l1 l2 bt112.1 bt112.2.1 bt112.2.2 t123 t126 bt129.1 bt129.2.1 bt129.2.2 (bt129.2.2 != bt112.2.2) l0_0 t119) else (laws_FnExactWitnessOf.j0 k l1 l2 bt112.1 bt112.2.1 bt112.2.2 t123 t126 bt129.1 bt129.2.1 bt129.2.2 true l0_0 t119))) else (laws_FnExactWitnessOf.j0 k l1 l2 bt112.1 bt112.2.1 bt112.2.2 t123 t126 bt129.1 bt129.2.1 bt129.2.2 true l0_0 t119)))))))))))) = some r := H
   have A8 := am_ A80
   clear A80
   by_cases c9 : t102 < 0
   ·
    rw [if_pos c9] at H
    have c9b0 : decide (t102 < 0) = true := decide_eq_true c9
    clear c9
    obtain rfl := Option.some.inj H
    go_enter Try.func9, Try.ntmps9
    go_wp2_with (first | ((with_reducible refine gate_dst (N := 3) rfl ?_); refine box_event ?hg (N := 3) ?hd (cs := #[.slice A0_0 l0_0.length c0_0]) (t := 58) ?hr ?_; (case hd => rfl); (case hg => rfl); (case hr => first | (go_simp; done) | (go_simp; rfl)); intro gb101 hg w10 hbox hb; have n0_ := am_ (below_step qz1_ hb); have n1_ := am_ (hbox); have n2_ := am_ ((by rw [hg]; exact (below_size qz1_) : w.heap.size ≤ gb101)); have n3_ := am_ ((by rw [hg]; exact (below_size qz1_) : w.heap.size ≤ gb101)); clear HB; have HB := n0_; have BK101 := n1_; have GW101 := n2_; have GE101 := n3_; clear n0_ n1_ n2_ n3_; clear hb hbox hg; have hcz11_0 : w10.cell? ⟨gb101, 0, none⟩ = some (.slice A0_0 l0_0.length c0_0) := (blk_cell BK101.out 0).trans rfl; have hfz11_0 := blk_frozen BK101.out 0) | ((with_reducible refine gate_callee (f := 33) rfl ?_); refine goesL_ (some 31) rfl rfl Try.func33 (by kernel_rfl) rfl #[.agg #[.slice A0_0 l0_0.length c0_0], .int .i64 1048576] rfl qz9_ ?_; (with_reducible refine (laws_szCircuit.calls _ _ l0_0 1048576 t102 _ ?side1 ?side2 A8.out).mono ?_); (case side1 => exact qc_ (Kd.C_below HR0_0.out HB.out)); (case side2 => exact HC0_0.out); rintro e w12 ⟨rfl, hb⟩; refine ⟨_, rfl, ?_⟩; have n0_ := am_ (blk_below (g := gb101) (o := .cells #[.slice A0_0 l0_0.length c0_0] 58 (0, 0)) qz11_ hb); have n1_ := am_ (below_step qz10_ hb); clear BK101; clear HB; have BK101 := n0_; have HB := n1_; clear n0_ n1_; (try clear hb); (try clear hb2); (try clear hk); (try clear hi)))
    go_ret
    exact ⟨qz5_, qz10_⟩
   ·
    rw [if_neg c9] at H
    have c9b0 : decide (t102 < 0) = false := decide_eq_false c9
    clear c9
    replace H := Option.bind_eq_some_iff.mp H
    obtain ⟨t103, A130, H⟩ := H
    replace H : ((laws_toIntS.f k l1).bind fun t106 => ((laws_toIntS.f k l2).bind fun t109 => ((spec_WitnessOf.f k t103 t106 t109).bind fun bt112 => ((laws_toCircuit.f k l0_0).bind fun t119 => ((laws_toIntS.f k l1).bind fun t123 => ((laws_toIntS.f k l2).bind fun t126 => ((impl_WitnessOf.f k t119 t123 t126).bind fun bt129 => ((laws_eqIntS.f k bt129.1 bt112.1).bind fun t136 => (if t136 = true then ((laws_eqIntS.f k bt129.2.1 bt112.2.1).bind fun t137 => (if t137 = true then (laws_FnExactWitnessOf.j0 k l1 l2 bt112.1 bt112.2.1 bt112.2.2 t123 t126 bt129.1 bt129.2.1 bt129.2.2 (bt129.2.2 != bt112.2.2) l0_0 t119) else (laws_FnExactWitnessOf.j0 k l1 l2 bt112.1 bt112.2.1 bt112.2.2 t123 t126 bt129.1 bt129.2.1 bt129.2.2 true l0_0 t119))) else (laws_FnExactWitnessOf.j0 k l1 l2 bt112.1 bt112.2.1 bt112.2.2 t123 t126 bt129.1 bt129.2.1 bt129.2.2 true l0_0 t119)))))))))) = some r := H
    have A13 := am_ A130
    clear A130
    replace H := Option.bind_eq_some_iff.mp H
    obtain ⟨t106, A140, H⟩ := H
    replace H : ((laws_toIntS.f k l2).bind fun t109 => ((spec_WitnessOf.f k t103 t106 t109).bind fun bt112 => ((laws_toCircuit.f k l0_0).bind fun t119 => ((laws_toIntS.f k l1).bind fun t123 => ((laws_toIntS.f k l2).bind fun t126 => ((impl_WitnessOf.f k t119 t123 t126).bind fun bt129 => ((laws_eqIntS.f k bt129.1 bt112.1).bind fun t136 => (if t136 = true then ((laws_eqIntS.f k bt129.2.1 bt112.2.1).bind fun t137 => (if t137 = true then (laws_FnExactWitnessOf.j0 k l1 l2 bt112.1 bt112.2.1 bt112.2.2 t123 t126 bt129.1 bt129.2.1 bt129.2.2 (bt129.2.2 != bt112.2.2) l0_0 t119) else (laws_FnExactWitnessOf.j0 k l1 l2 bt112.1 bt112.2.1 bt112.2.2 t123 t126 bt129.1 bt129.2.1 bt129.2.2 true l0_0 t119))) else (laws_FnExactWitnessOf.j0 k l1 l2 bt112.1 bt112.2.1 bt112.2.2 t123 t126 bt129.1 bt129.2.1 bt129.2.2 true l0_0 t119))))))))) = some r := H
    have A14 := am_ A140
    clear A140
    replace H := Option.bind_eq_some_iff.mp H
    obtain ⟨t109, A150, H⟩ := H
    replace H : ((spec_WitnessOf.f k t103 t106 t109).bind fun bt112 => ((laws_toCircuit.f k l0_0).bind fun t119 => ((laws_toIntS.f k l1).bind fun t123 => ((laws_toIntS.f k l2).bind fun t126 => ((impl_WitnessOf.f k t119 t123 t126).bind fun bt129 => ((laws_eqIntS.f k bt129.1 bt112.1).bind fun t136 => (if t136 = true then ((laws_eqIntS.f k bt129.2.1 bt112.2.1).bind fun t137 => (if t137 = true then (laws_FnExactWitnessOf.j0 k l1 l2 bt112.1 bt112.2.1 bt112.2.2 t123 t126 bt129.1 bt129.2.1 bt129.2.2 (bt129.2.2 != bt112.2.2) l0_0 t119) else (laws_FnExactWitnessOf.j0 k l1 l2 bt112.1 bt112.2.1 bt112.2.2 t123 t126 bt129.1 bt129.2.1 bt129.2.2 true l0_0 t119))) else (laws_FnExactWitnessOf.j0 k l1 l2 bt112.1 bt112.2.1 bt112.2.2 t123 t126 bt129.1 bt129.2.1 bt129.2.2 true l0_0 t119)))))))) = some r := H
    have A15 := am_ A150
    clear A150
    replace H := Option.bind_eq_some_iff.mp H
    obtain ⟨⟨t112, t115, t118⟩, A160, H⟩ := H
    replace H : ((laws_toCircuit.f k l0_0).bind fun t119 => ((laws_toIntS.f k l1).bind fun t123 => ((laws_toIntS.f k l2).bind fun t126 => ((impl_WitnessOf.f k t119 t123 t126).bind fun bt129 => ((laws_eqIntS.f k bt129.1 t112).bind fun t136 => (if t136 = true then ((laws_eqIntS.f k bt129.2.1 t115).bind fun t137 => (if t137 = true then (laws_FnExactWitnessOf.j0 k l1 l2 t112 t115 t118 t123 t126 bt129.1 bt129.2.1 bt129.2.2 (bt129.2.2 != t118) l0_0 t119) else (laws_FnExactWitnessOf.j0 k l1 l2 t112 t115 t118 t123 t126 bt129.1 bt129.2.1 bt129.2.2 true l0_0 t119))) else (laws_FnExactWitnessOf.j0 k l1 l2 t112 t115 t118 t123 t126 bt129.1 bt129.2.1 bt129.2.2 true l0_0 t119))))))) = some r := H
    have A16 := am_ A160
    clear A160
    replace H := Option.bind_eq_some_iff.mp H
    obtain ⟨t119, A170, H⟩ := H
    replace H : ((laws_toIntS.f k l1).bind fun t123 => ((laws_toIntS.f k l2).bind fun t126 => ((impl_WitnessOf.f k t119 t123 t126).bind fun bt129 => ((laws_eqIntS.f k bt129.1 t112).bind fun t136 => (if t136 = true then ((laws_eqIntS.f k bt129.2.1 t115).bind fun t137 => (if t137 = true then (laws_FnExactWitnessOf.j0 k l1 l2 t112 t115 t118 t123 t126 bt129.1 bt129.2.1 bt129.2.2 (bt129.2.2 != t118) l0_0 t119) else (laws_FnExactWitnessOf.j0 k l1 l2 t112 t115 t118 t123 t126 bt129.1 bt129.2.1 bt129.2.2 true l0_0 t119))) else (laws_FnExactWitnessOf.j0 k l1 l2 t112 t115 t118 t123 t126 bt129.1 bt129.2.1 bt129.2.2 true l0_0 t119)))))) = some r := H
    have A17 := am_ A170
    clear A170
    replace H := Option.bind_eq_some_iff.mp H
    obtain ⟨t123, A180, H⟩ := H
    replace H : ((laws_toIntS.f k l2).bind fun t126 => ((impl_WitnessOf.f k t119 t123 t126).bind fun bt129 => ((laws_eqIntS.f k bt129.1 t112).bind fun t136 => (if t136 = true then ((laws_eqIntS.f k bt129.2.1 t115).bind fun t137 => (if t137 = true then (laws_FnExactWitnessOf.j0 k l1 l2 t112 t115 t118 t123 t126 bt129.1 bt129.2.1 bt129.2.2 (bt129.2.2 != t118) l0_0 t119) else (laws_FnExactWitnessOf.j0 k l1 l2 t112 t115 t118 t123 t126 bt129.1 bt129.2.1 bt129.2.2 true l0_0 t119))) else (laws_FnExactWitnessOf.j0 k l1 l2 t112 t115 t118 t123 t126 bt129.1 bt129.2.1 bt129.2.2 true l0_0 t119))))) = some r := H
    have A18 := am_ A180
    clear A180
    replace H := Option.bind_eq_some_iff.mp H
    obtain ⟨t126, A190, H⟩ := H
    replace H : ((impl_WitnessOf.f k t119 t123 t126).bind fun bt129 => ((laws_eqIntS.f k bt129.1 t112).bind fun t136 => (if t136 = true then ((laws_eqIntS.f k bt129.2.1 t115).bind fun t137 => (if t137 = true then (laws_FnExactWitnessOf.j0 k l1 l2 t112 t115 t118 t123 t126 bt129.1 bt129.2.1 bt129.2.2 (bt129.2.2 != t118) l0_0 t119) else (laws_FnExactWitnessOf.j0 k l1 l2 t112 t115 t118 t123 t126 bt129.1 bt129.2.1 bt129.2.2 true l0_0 t119))) else (laws_FnExactWitnessOf.j0 k l1 l2 t112 t115 t118 t123 t126 bt129.1 bt129.2.1 bt129.2.2 true l0_0 t119)))) = some r := H
    have A19 := am_ A190
    clear A190
    replace H := Option.bind_eq_some_iff.mp H
    obtain ⟨⟨t129, t132, t135⟩, A200, H⟩ := H
    replace H : ((laws_eqIntS.f k t129 t112).bind fun t136 => (if t136 = true then ((laws_eqIntS.f k t132 t115).bind fun t137 => (if t137 = true then (laws_FnExactWitnessOf.j0 k l1 l2 t112 t115 t118 t123 t126 t129 t132 t135 (t135 != t118) l0_0 t119) else (laws_FnExactWitnessOf.j0 k l1 l2 t112 t115 t118 t123 t126 t129 t132 t135 true l0_0 t119))) else (laws_FnExactWitnessOf.j0 k l1 l2 t112 t115 t118 t123 t126 t129 t132 t135 true l0_0 t119))) = some r := H
    have A20 := am_ A200
    clear A200
    have HC21 := am_ H
    clear H
    go_enter Try.func9, Try.ntmps9
    go_upto_region 14 with (first | ((with_reducible refine gate_dst (N := 3) rfl ?_); refine box_event ?hg (N := 3) ?hd (cs := #[.slice A0_0 l0_0.length c0_0]) (t := 58) ?hr ?_; (case hd => rfl); (case hg => rfl); (case hr => first | (go_simp; done) | (go_simp; rfl)); intro gb101 hg w22 hbox hb; have n0_ := am_ (below_step qz1_ hb); have n1_ := am_ (hbox); have n2_ := am_ ((by rw [hg]; exact (below_size qz1_) : w.heap.size ≤ gb101)); have n3_ := am_ ((by rw [hg]; exact (below_size qz1_) : w.heap.size ≤ gb101)); clear HB; have HB := n0_; have BK101 := n1_; have GW101 := n2_; have GE101 := n3_; clear n0_ n1_ n2_ n3_; clear hb hbox hg; have hcz23_0 : w22.cell? ⟨gb101, 0, none⟩ = some (.slice A0_0 l0_0.length c0_0) := (blk_cell BK101.out 0).trans rfl; have hfz23_0 := blk_frozen BK101.out 0) | ((with_reducible refine gate_callee (f := 33) rfl ?_); refine goesL_ (some 31) rfl rfl Try.func33 (by kernel_rfl) rfl #[.agg #[.slice A0_0 l0_0.length c0_0], .int .i64 1048576] rfl qz9_ ?_; (with_reducible refine (laws_szCircuit.calls _ _ l0_0 1048576 t102 _ ?side1 ?side2 A8.out).mono ?_); (case side1 => exact qc_ (Kd.C_below HR0_0.out HB.out)); (case side2 => exact HC0_0.out); rintro e w24 ⟨rfl, hb⟩; refine ⟨_, rfl, ?_⟩; have n0_ := am_ (blk_below (g := gb101) (o := .cells #[.slice A0_0 l0_0.length c0_0] 58 (0, 0)) qz11_ hb); have n1_ := am_ (below_step qz10_ hb); clear BK101; clear HB; have BK101 := n0_; have HB := n1_; clear n0_ n1_; (try clear hb); (try clear hb2); (try clear hk); (try clear hi); have hcz25_0 : w24.cell? ⟨gb101, 0, none⟩ = some (.slice A0_0 l0_0.length c0_0) := (blk_cell BK101.out 0).trans rfl; have hfz25_0 := blk_frozen BK101.out 0) | ((with_reducible refine gate_callee (f := 35) rfl ?_); refine goesL_ (some 36) rfl rfl Try.func35 (by kernel_rfl) rfl #[.agg #[.slice A0_0 l0_0.length c0_0]] rfl qz9_ ?_; (with_reducible refine (laws_toCircuit.calls k _ _ l0_0 t103 _ ?side1 ?side2 A13.out).mono ?_); (case side1 => exact qc_ (Kd.C_below HR0_0.out HB.out)); (case side2 => exact HC0_0.out); rintro e w26 ⟨v104, rfl, ho0, hb⟩; refine ⟨_, rfl, ?_⟩; have n0_ := am_ (Kd.R_lower ho0 (below_size qz10_)); have n1_ := am_ (blk_below (g := gb101) (o := .cells #[.slice A0_0 l0_0.length c0_0] 58 (0, 0)) qz11_ hb); have n2_ := am_ (below_step qz10_ hb); clear BK101; clear HB; have HO105 := n0_; have BK101 := n1_; have HB := n2_; clear n0_ n1_ n2_; (try clear hb); (try clear hb2); (try clear hk); (try clear hi); (try clear ho0)) | ((with_reducible refine gate_callee (f := 16) rfl ?_); refine goesL_ (some 38) rfl rfl Try.func16 (by kernel_rfl) rfl #[.slice A1 l1.length c1] rfl qz9_ ?_; (with_reducible refine (laws_toIntS.calls k _ _ l1 t106 _ ?side1 ?side2 A14.out).mono ?_); (case side1 => exact qc_ (Kd.C_below HR1.out HB.out)); (case side2 => exact HC1.out); rintro e w27 ⟨v107, rfl, ho0, hb⟩; refine ⟨_, rfl, ?_⟩; have n0_ := am_ (Kd.R_below qz71_ hb); have n1_ := am_ (Kd.R_lower ho0 (below_size qz10_)); have n2_ := am_ (blk_below (g := gb101) (o := .cells #[.slice A0_0 l0_0.length c0_0] 58 (0, 0)) qz11_ hb); have n3_ := am_ (below_step qz10_ hb); clear HO105; clear BK101; clear HB; have HO105 := n0_; have HO108 := n1_; have BK101 := n2_; have HB := n3_; clear n0_ n1_ n2_ n3_; (try clear hb); (try clear hb2); (try clear hk); (try clear hi); (try clear ho0)) | ((with_reducible refine gate_callee (f := 16) rfl ?_); refine goesL_ (some 40) rfl rfl Try.func16 (by kernel_rfl) rfl #[.slice A2 l2.length c2] rfl qz9_ ?_; (with_reducible refine (laws_toIntS.calls k _ _ l2 t109 _ ?side1 ?side2 A15.out).mono ?_); (case side1 => exact qc_ (Kd.C_below HR2.out HB.out)); (case side2 => exact HC2.out); rintro e w28 ⟨v110, rfl, ho0, hb⟩; refine ⟨_, rfl, ?_⟩; have n0_ := am_ (Kd.R_below qz71_ hb); have n1_ := am_ (Kd.R_elder' qz72_ (Kd.R_base ho0) hb); have n2_ := am_ (Kd.R_lower (Kd.R_new' ho0 (Kd.R_lt qz72_)) (below_size qz10_)); have n3_ := am_ (blk_below (g := gb101) (o := .cells #[.slice A0_0 l0_0.length c0_0] 58 (0, 0)) qz11_ hb); have n4_ := am_ (below_step qz10_ hb); clear HO105; clear HO108; clear BK101; clear HB; have HO105 := n0_; have HO108 := n1_; have HO111 := n2_; have BK101 := n3_; have HB := n4_; clear n0_ n1_ n2_ n3_ n4_; (try clear hb); (try clear hb2); (try clear hk); (try clear hi); (try clear ho0); obtain ⟨Ao29, co29, eo29⟩ := Kd.R_slice HO105.out; subst eo29; obtain ⟨Ao30, co30, eo30⟩ := Kd.R_slice HO108.out; subst eo30; obtain ⟨Ao31, co31, eo31⟩ := Kd.R_slice HO111.out; subst eo31) | ((with_reducible refine gate_callee (f := 39) rfl ?_); refine goesL_ (some 41) rfl rfl Try.func39 (by kernel_rfl) rfl #[.agg #[.slice Ao29 t103.length co29], .slice Ao30 t106.length co30, .slice Ao31 t109.length co31] rfl qz9_ ?_; (with_reducible refine (spec_WitnessOf.calls k _ _ t103 _ _ t106 _ _ t109 t112 t115 t118 _ ?side1 ?side2 ?side3 ?side4 ?side5 ?side6 A16.out).mono ?_); (case side1 => exact qc_ (Kd.R_reads' HO105.out).2.2); (case side2 => exact (Kd.R_reads' HO105.out).2.1); (case side3 => exact qc_ (Kd.R_reads' HO108.out).2.2); (case side4 => exact (Kd.R_reads' HO108.out).2.1); (case side5 => exact qc_ (Kd.R_reads' HO111.out).2.2); (case side6 => exact (Kd.R_reads' HO111.out).2.1); rintro e w32 ⟨v113, v116, rfl, ho0, ho1, hb⟩; refine ⟨_, rfl, ?_⟩; have n0_ := am_ (Kd.R_below qz71_ hb); have n1_ := am_ (Kd.R_mono (Kd.R_told (Kd.R_told (Kd.R_old qz72_ hb) (Kd.R_base ho0)) (Kd.R_base ho1)) (fun _ h_ => h_.1)); have n2_ := am_ (Kd.R_mono (Kd.R_told (Kd.R_told (Kd.R_old qz55_ hb) (Kd.R_base ho0)) (Kd.R_base ho1)) (fun _ h_ => h_.1)); have n3_ := am_ (Kd.R_lower (Kd.R_new' (Kd.R_new' ho0 (Kd.R_lt qz72_)) (Kd.R_lt qz55_)) (below_size qz10_)); have n4_ := am_ (Kd.R_lower (Kd.R_new' (Kd.R_new' ho1 (Kd.R_lt qz72_)) (Kd.R_lt qz55_)) (below_size qz10_)); have n5_ := am_ (blk_below (g := gb101) (o := .cells #[.slice A0_0 l0_0.length c0_0] 58 (0, 0)) qz11_ hb); have n6_ := am_ (below_step qz10_ hb); clear HO105; clear HO108; clear HO111; clear BK101; clear HB; have HO105 := n0_; have HO108 := n1_; have HO111 := n2_; have HO114 := n3_; have HO117 := n4_; have BK101 := n5_; have HB := n6_; clear n0_ n1_ n2_ n3_ n4_ n5_ n6_; (try clear hb); (try clear hb2); (try clear hk); (try clear hi); (try clear ho0); (try clear ho1); have hcz33_0 : w32.cell? ⟨gb101, 0, none⟩ = some (.slice A0_0 l0_0.length c0_0) := (blk_cell BK101.out 0).trans rfl; have hfz33_0 := blk_frozen BK101.out 0) | ((with_reducible refine gate_callee (f := 35) rfl ?_); refine goesL_ (some 46) rfl rfl Try.func35 (by kernel_rfl) rfl #[.agg #[.slice A0_0 l0_0.length c0_0]] rfl qz9_ ?_; (with_reducible refine (laws_toCircuit.calls k _ _ l0_0 t119 _ ?side1 ?side2 A17.out).mono ?_); (case side1 => exact qc_ (Kd.C_below HR0_0.out HB.out)); (case side2 => exact HC0_0.out); rintro e w34 ⟨v120, rfl, ho0, hb⟩; refine ⟨_, rfl, ?_⟩; have n0_ := am_ (Kd.R_elder' qz71_ (Kd.R_base ho0) hb); have n1_ := am_ (Kd.R_below qz72_ hb); have n2_ := am_ (Kd.R_below qz55_ hb); have n3_ := am_ (Kd.R_below qz27_ hb); have n4_ := am_ (Kd.R_below qz28_ hb); have n5_ := am_ (Kd.R_lower (Kd.R_new' ho0 (Kd.R_lt qz71_)) (below_size qz10_)); have n6_ := am_ (blk_below (g := gb101) (o := .cells #[.slice A0_0 l0_0.length c0_0] 58 (0, 0)) qz11_ hb); have n7_ := am_ (below_step qz10_ hb); clear HO105; clear HO108; clear HO111; clear HO114; clear HO117; clear BK101; clear HB; have HO105 := n0_; have HO108 := n1_; have HO111 := n2_; have HO114 := n3_; have HO117 := n4_; have HO121 := n5_; have BK101 := n6_; have HB := n7_; clear n0_ n1_ n2_ n3_ n4_ n5_ n6_ n7_; (try clear hb); (try clear hb2); (try clear hk); (try clear hi); (try clear ho0)) | ((with_reducible refine gate_dst (N := 11) rfl ?_); refine box_event ?hg (N := 11) ?hd (cs := #[.slice none 0 0]) (t := 63) ?hr ?_; (case hd => rfl); (case hg => rfl); (case hr => first | (go_simp; done) | (go_simp; rfl)); intro gb122 hg w35 hbox hb; have n0_ := am_ (Kd.R_below qz71_ hb); have n1_ := am_ (Kd.R_below qz72_ hb); have n2_ := am_ (Kd.R_below qz55_ hb); have n3_ := am_ (Kd.R_below qz27_ hb); have n4_ := am_ (Kd.R_below qz28_ hb); have n5_ := am_ (Kd.R_below (by (with_reducible repeat (first | apply Kd.R_alloc | apply Kd.R_drewN | apply Kd.R_drew)); exact HO121.out) hb); have n6_ := am_ (blk_below (g := gb101) (o := .cells #[.slice A0_0 l0_0.length c0_0] 58 (0, 0)) qz11_ hb); have n7_ := am_ (below_step qz10_ hb); have n8_ := am_ (hbox); have n9_ := am_ ((by rw [hg]; exact (below_size qz10_) : w.heap.size ≤ gb122)); have n10_ := am_ ((by rw [hg]; exact (below_size qz10_) : w.heap.size ≤ gb122)); have n11_ := am_ ((by rw [hg]; exact Nat.ne_of_lt (blk_lt (g := gb101) (o := .cells #[.slice A0_0 l0_0.length c0_0] 58 (0, 0)) qz11_) : gb101 ≠ gb122)); have n12_ := am_ ((by rw [hg]; exact Nat.ne_of_gt (blk_lt (g := gb101) (o := .cells #[.slice A0_0 l0_0.length c0_0] 58 (0, 0)) qz11_) : gb122 ≠ gb101)); clear HO105; clear HO108; clear HO111; clear HO114; clear HO117; clear HO121; clear BK101; clear HB; have HO105 := n0_; have HO108 := n1_; have HO111 := n2_; have HO114 := n3_; have HO117 := n4_; have HO121 := n5_; have BK101 := n6_; have HB := n7_; have BK122 := n8_; have GW122 := n9_; have GE122 := n10_; have NB101_122 := n11_; have NB122_101 := n12_; clear n0_ n1_ n2_ n3_ n4_ n5_ n6_ n7_ n8_ n9_ n10_ n11_ n12_; clear hb hbox hg; obtain ⟨Ao36, co36, eo36⟩ := Kd.R_slice HO121.out; subst eo36; have hnb37 := NB122_101.out; have hnc37 := NB101_122.out; have hcz38_0 : w35.cell? ⟨gb122, 0, none⟩ = some (.slice none 0 0) := (blk_cell BK122.out 0).trans rfl; have hfz38_0 := blk_frozen BK122.out 0) | ((with_reducible refine gate_callee (f := 16) rfl ?_); refine goesL_ (some 48) rfl rfl Try.func16 (by kernel_rfl) rfl #[.slice A1 l1.length c1] rfl qz9_ ?_; (with_reducible refine (laws_toIntS.calls k _ _ l1 t123 _ ?side1 ?side2 A18.out).mono ?_); (case side1 => exact Kd.C_below HR1.out qz73_); (case side2 => exact HC1.out); rintro e w39 ⟨v124, rfl, ho0, hb⟩; refine ⟨_, rfl, ?_⟩; have n0_ := am_ (Kd.R_below (by (with_reducible repeat (first | apply Kd.R_alloc | apply Kd.R_drewN | apply Kd.R_drew)); exact (Kd.R_mono (Kd.R_far (p := ⟨gb122, 0, none⟩) (Kd.R_types HO105.out BK122.out (by decide)) (fun _ hk => hk.2) (.slice Ao36 t119.length co36)) (fun _ h_ => h_.1))) hb); have n1_ := am_ (Kd.R_elder' (by (with_reducible repeat (first | apply Kd.R_alloc | apply Kd.R_drewN | apply Kd.R_drew)); exact (Kd.R_mono (Kd.R_far (p := ⟨gb122, 0, none⟩) (Kd.R_types HO108.out BK122.out (by decide)) (fun _ hk => hk.2) (.slice Ao36 t119.length co36)) (fun _ h_ => h_.1))) (Kd.R_base ho0) hb); have n2_ := am_ (Kd.R_elder' (by (with_reducible repeat (first | apply Kd.R_alloc | apply Kd.R_drewN | apply Kd.R_drew)); exact (Kd.R_mono (Kd.R_far (p := ⟨gb122, 0, none⟩) (Kd.R_types HO111.out BK122.out (by decide)) (fun _ hk => hk.2) (.slice Ao36 t119.length co36)) (fun _ h_ => h_.1))) (Kd.R_base ho0) hb); have n3_ := am_ (Kd.R_elder' (by (with_reducible repeat (first | apply Kd.R_alloc | apply Kd.R_drewN | apply Kd.R_drew)); exact (Kd.R_mono (Kd.R_far (p := ⟨gb122, 0, none⟩) (Kd.R_types HO114.out BK122.out (by decide)) (fun _ hk => hk.2) (.slice Ao36 t119.length co36)) (fun _ h_ => h_.1))) (Kd.R_base ho0) hb); have n4_ := am_ (Kd.R_elder' (by (with_reducible repeat (first | apply Kd.R_alloc | apply Kd.R_drewN | apply Kd.R_drew)); exact (Kd.R_mono (Kd.R_far (p := ⟨gb122, 0, none⟩) (Kd.R_types HO117.out BK122.out (by decide)) (fun _ hk => hk.2) (.slice Ao36 t119.length co36)) (fun _ h_ => h_.1))) (Kd.R_base ho0) hb); have n5_ := am_ (Kd.R_below (by (with_reducible repeat (first | apply Kd.R_alloc | apply Kd.R_drewN | apply Kd.R_drew)); exact (Kd.R_mono (Kd.R_far (p := ⟨gb122, 0, none⟩) (Kd.R_types HO121.out BK122.out (by decide)) (fun _ hk => hk.2) (.slice Ao36 t119.length co36)) (fun _ h_ => h_.1))) hb); have n6_ := am_ (Kd.R_lower (Kd.R_new' (Kd.R_new' (Kd.R_new' (Kd.R_new' ho0 (Kd.R_lt (by (with_reducible repeat (first | apply Kd.R_alloc | apply Kd.R_drewN | apply Kd.R_drew)); exact (Kd.R_mono (Kd.R_far (p := ⟨gb122, 0, none⟩) (Kd.R_types HO108.out BK122.out (by decide)) (fun _ hk => hk.2) (.slice Ao36 t119.length co36)) (fun _ h_ => h_.1))))) (Kd.R_lt (by (with_reducible repeat (first | apply Kd.R_alloc | apply Kd.R_drewN | apply Kd.R_drew)); exact (Kd.R_mono (Kd.R_far (p := ⟨gb122, 0, none⟩) (Kd.R_types HO111.out BK122.out (by decide)) (fun _ hk => hk.2) (.slice Ao36 t119.length co36)) (fun _ h_ => h_.1))))) (Kd.R_lt (by (with_reducible repeat (first | apply Kd.R_alloc | apply Kd.R_drewN | apply Kd.R_drew)); exact (Kd.R_mono (Kd.R_far (p := ⟨gb122, 0, none⟩) (Kd.R_types HO114.out BK122.out (by decide)) (fun _ hk => hk.2) (.slice Ao36 t119.length co36)) (fun _ h_ => h_.1))))) (Kd.R_lt (by (with_reducible repeat (first | apply Kd.R_alloc | apply Kd.R_drewN | apply Kd.R_drew)); exact (Kd.R_mono (Kd.R_far (p := ⟨gb122, 0, none⟩) (Kd.R_types HO117.out BK122.out (by decide)) (fun _ hk => hk.2) (.slice Ao36 t119.length co36)) (fun _ h_ => h_.1))))) (below_size qz73_)); have n7_ := am_ (blk_below (g := gb101) (o := .cells #[.slice A0_0 l0_0.length c0_0] 58 (0, 0)) (by (with_reducible repeat (first | refine blk_drewN ?_ _ | refine blk_drew ?_ | refine blk_alloc ?_ _)); refine blk_far ?_ NB101_122.out _; (with_reducible repeat (first | refine blk_drewN ?_ _ | refine blk_drew ?_ | refine blk_alloc ?_ _)); exact BK101.out) hb); have n8_ := am_ (blk_below (g := gb122) (o := .cells #[.slice Ao36 t119.length co36] 63 (0, 0)) (by (with_reducible repeat (first | refine blk_drewN ?_ _ | refine blk_drew ?_ | refine blk_alloc ?_ _)); refine blk_put (cs := #[.slice none 0 0]) ?_ 0 _ rfl; (with_reducible repeat (first | refine blk_drewN ?_ _ | refine blk_drew ?_ | refine blk_alloc ?_ _)); exact BK122.out) hb); have n9_ := am_ (below_step qz73_ hb); clear HO105; clear HO108; clear HO111; clear HO114; clear HO117; clear HO121; clear BK101; clear BK122; clear HB; have HO105 := n0_; have HO108 := n1_; have HO111 := n2_; have HO114 := n3_; have HO117 := n4_; have HO121 := n5_; have HO125 := n6_; have BK101 := n7_; have BK122 := n8_; have HB := n9_; clear n0_ n1_ n2_ n3_ n4_ n5_ n6_ n7_ n8_ n9_; (try clear hb); (try clear hb2); (try clear hk); (try clear hi); (try clear ho0)) | ((with_reducible refine gate_callee (f := 16) rfl ?_); refine goesL_ (some 50) rfl rfl Try.func16 (by kernel_rfl) rfl #[.slice A2 l2.length c2] rfl qz9_ ?_; (with_reducible refine (laws_toIntS.calls k _ _ l2 t126 _ ?side1 ?side2 A19.out).mono ?_); (case side1 => exact qc_ (Kd.C_below HR2.out HB.out)); (case side2 => exact HC2.out); rintro e w40 ⟨v127, rfl, ho0, hb⟩; refine ⟨_, rfl, ?_⟩; have n0_ := am_ (Kd.R_below qz71_ hb); have n1_ := am_ (Kd.R_elder' qz72_ (Kd.R_base ho0) hb); have n2_ := am_ (Kd.R_elder' qz55_ (Kd.R_base ho0) hb); have n3_ := am_ (Kd.R_elder' qz27_ (Kd.R_base ho0) hb); have n4_ := am_ (Kd.R_elder' qz28_ (Kd.R_base ho0) hb); have n5_ := am_ (Kd.R_below (by (with_reducible repeat (first | apply Kd.R_alloc | apply Kd.R_drewN | apply Kd.R_drew)); exact HO121.out) hb); have n6_ := am_ (Kd.R_elder' (by (with_reducible repeat (first | apply Kd.R_alloc | apply Kd.R_drewN | apply Kd.R_drew)); exact HO125.out) (Kd.R_base ho0) hb); have n7_ := am_ (Kd.R_lower (Kd.R_new' (Kd.R_new' (Kd.R_new' (Kd.R_new' (Kd.R_new' ho0 (Kd.R_lt qz72_)) (Kd.R_lt qz55_)) (Kd.R_lt qz27_)) (Kd.R_lt qz28_)) (Kd.R_lt (by (with_reducible repeat (first | apply Kd.R_alloc | apply Kd.R_drewN | apply Kd.R_drew)); exact HO125.out))) (below_size qz73_)); have n8_ := am_ (blk_below (g := gb101) (o := .cells #[.slice A0_0 l0_0.length c0_0] 58 (0, 0)) qz11_ hb); have n9_ := am_ (blk_below (g := gb122) (o := .cells #[.slice Ao36 t119.length co36] 63 (0, 0)) qz74_ hb); have n10_ := am_ (below_step qz73_ hb); clear HO105; clear HO108; clear HO111; clear HO114; clear HO117; clear HO121; clear HO125; clear BK101; clear BK122; clear HB; have HO105 := n0_; have HO108 := n1_; have HO111 := n2_; have HO114 := n3_; have HO117 := n4_; have HO121 := n5_; have HO125 := n6_; have HO128 := n7_; have BK101 := n8_; have BK122 := n9_; have HB := n10_; clear n0_ n1_ n2_ n3_ n4_ n5_ n6_ n7_ n8_ n9_ n10_; (try clear hb); (try clear hb2); (try clear hk); (try clear hi); (try clear ho0); have hcz41_0 : w40.cell? ⟨gb122, 0, none⟩ = some (.slice Ao36 t119.length co36) := (blk_cell BK122.out 0).trans rfl; have hfz41_0 := blk_frozen BK122.out 0; obtain ⟨Ao42, co42, eo42⟩ := Kd.R_slice HO125.out; subst eo42; obtain ⟨Ao43, co43, eo43⟩ := Kd.R_slice HO128.out; subst eo43) | ((with_reducible refine gate_callee (f := 40) rfl ?_); refine goesL_ (some 55) rfl rfl Try.func40 (by kernel_rfl) rfl #[.agg #[.slice Ao36 t119.length co36], .slice Ao42 t123.length co42, .slice Ao43 t126.length co43] rfl qz9_ ?_; (with_reducible refine (impl_WitnessOf.calls k _ _ t119 _ _ t123 _ _ t126 t129 t132 t135 _ ?side1 ?side2 ?side3 ?side4 ?side5 ?side6 A20.out).mono ?_); (case side1 => exact qc_ (Kd.R_reads' HO121.out).2.2); (case side2 => exact (Kd.R_reads' HO121.out).2.1); (case side3 => exact qc_ (Kd.R_reads' HO125.out).2.2); (case side4 => exact (Kd.R_reads' HO125.out).2.1); (case side5 => exact qc_ (Kd.R_reads' HO128.out).2.2); (case side6 => exact (Kd.R_reads' HO128.out).2.1); rintro e w44 ⟨v130, v133, rfl, ho0, ho1, hb⟩; refine ⟨_, rfl, ?_⟩; have n0_ := am_ (Kd.R_below qz71_ hb); have n1_ := am_ (Kd.R_mono (Kd.R_told (Kd.R_told (Kd.R_old qz72_ hb) (Kd.R_base ho0)) (Kd.R_base ho1)) (fun _ h_ => h_.1)); have n2_ := am_ (Kd.R_mono (Kd.R_told (Kd.R_told (Kd.R_old qz55_ hb) (Kd.R_base ho0)) (Kd.R_base ho1)) (fun _ h_ => h_.1)); have n3_ := am_ (Kd.R_mono (Kd.R_told (Kd.R_told (Kd.R_old qz27_ hb) (Kd.R_base ho0)) (Kd.R_base ho1)) (fun _ h_ => h_.1)); have n4_ := am_ (Kd.R_mono (Kd.R_told (Kd.R_told (Kd.R_old qz28_ hb) (Kd.R_base ho0)) (Kd.R_base ho1)) (fun _ h_ => h_.1)); have n5_ := am_ (Kd.R_below (by (with_reducible repeat (first | apply Kd.R_alloc | apply Kd.R_drewN | apply Kd.R_drew)); exact HO121.out) hb); have n6_ := am_ (Kd.R_mono (Kd.R_told (Kd.R_told (Kd.R_old (by (with_reducible repeat (first | apply Kd.R_alloc | apply Kd.R_drewN | apply Kd.R_drew)); exact HO125.out) hb) (Kd.R_base ho0)) (Kd.R_base ho1)) (fun _ h_ => h_.1)); have n7_ := am_ (Kd.R_mono (Kd.R_told (Kd.R_told (Kd.R_old (by (with_reducible repeat (first | apply Kd.R_alloc | apply Kd.R_drewN | apply Kd.R_drew)); exact HO128.out) hb) (Kd.R_base ho0)) (Kd.R_base ho1)) (fun _ h_ => h_.1)); have n8_ := am_ (Kd.R_lower (Kd.R_new' (Kd.R_new' (Kd.R_new' (Kd.R_new' (Kd.R_new' (Kd.R_new' ho0 (Kd.R_lt qz72_)) (Kd.R_lt qz55_)) (Kd.R_lt qz27_)) (Kd.R_lt qz28_)) (Kd.R_lt (by (with_reducible repeat (first | apply Kd.R_alloc | apply Kd.R_drewN | apply Kd.R_drew)); exact HO125.out))) (Kd.R_lt (by (with_reducible repeat (first | apply Kd.R_alloc | apply Kd.R_drewN | apply Kd.R_drew)); exact HO128.out))) (below_size qz73_)); have n9_ := am_ (Kd.R_lower (Kd.R_new' (Kd.R_new' (Kd.R_new' (Kd.R_new' (Kd.R_new' (Kd.R_new' ho1 (Kd.R_lt qz72_)) (Kd.R_lt qz55_)) (Kd.R_lt qz27_)) (Kd.R_lt qz28_)) (Kd.R_lt (by (with_reducible repeat (first | apply Kd.R_alloc | apply Kd.R_drewN | apply Kd.R_drew)); exact HO125.out))) (Kd.R_lt (by (with_reducible repeat (first | apply Kd.R_alloc | apply Kd.R_drewN | apply Kd.R_drew)); exact HO128.out))) (below_size qz73_)); have n10_ := am_ (blk_below (g := gb101) (o := .cells #[.slice A0_0 l0_0.length c0_0] 58 (0, 0)) qz11_ hb); have n11_ := am_ (blk_below (g := gb122) (o := .cells #[.slice Ao36 t119.length co36] 63 (0, 0)) qz74_ hb); have n12_ := am_ (below_step qz73_ hb); clear HO105; clear HO108; clear HO111; clear HO114; clear HO117; clear HO121; clear HO125; clear HO128; clear BK101; clear BK122; clear HB; have HO105 := n0_; have HO108 := n1_; have HO111 := n2_; have HO114 := n3_; have HO117 := n4_; have HO121 := n5_; have HO125 := n6_; have HO128 := n7_; have HO131 := n8_; have HO134 := n9_; have BK101 := n10_; have BK122 := n11_; have HB := n12_; clear n0_ n1_ n2_ n3_ n4_ n5_ n6_ n7_ n8_ n9_ n10_ n11_ n12_; (try clear hb); (try clear hb2); (try clear hk); (try clear hi); (try clear ho0); (try clear ho1)))
    (try simp only [Act.put, List.setIfInBounds_toArray, List.set_cons_zero, List.set_cons_succ])
    go_cut [73] (fun v73 wc => ∃ (kq : Nat) (x73_20 : Bool), v73 = .bool x73_20 ∧ Aside0 (laws_FnExactWitnessOf.j0 kq l1 l2 t112 t115 t118 t123 t126 t129 t132 t135 x73_20 l0_0 t119 = some r) ∧ Aside0 (kq ≤ k) ∧ Aside0 (Kd.R (Kd.int .i64) 3 wc w.heap.size (fun k_ => some k_ ≠ (v116 : Value).ownBlock ∧ some k_ ≠ ((.slice Ao42 t123.length co42) : Value).ownBlock ∧ some k_ ≠ ((.slice Ao43 t126.length co43) : Value).ownBlock ∧ some k_ ≠ (v130 : Value).ownBlock ∧ some k_ ≠ (v133 : Value).ownBlock) v113 t112) ∧ Aside0 (Kd.R (Kd.int .i64) 3 wc w.heap.size (fun k_ => some k_ ≠ (v113 : Value).ownBlock ∧ some k_ ≠ ((.slice Ao42 t123.length co42) : Value).ownBlock ∧ some k_ ≠ ((.slice Ao43 t126.length co43) : Value).ownBlock ∧ some k_ ≠ (v130 : Value).ownBlock ∧ some k_ ≠ (v133 : Value).ownBlock) v116 t115) ∧ Aside0 (Kd.R (Kd.int .i64) 3 wc w.heap.size (fun k_ => some k_ ≠ (v113 : Value).ownBlock ∧ some k_ ≠ (v116 : Value).ownBlock ∧ some k_ ≠ ((.slice Ao43 t126.length co43) : Value).ownBlock ∧ some k_ ≠ (v130 : Value).ownBlock ∧ some k_ ≠ (v133 : Value).ownBlock) (.slice Ao42 t123.length co42) t123) ∧ Aside0 (Kd.R (Kd.int .i64) 3 wc w.heap.size (fun k_ => some k_ ≠ (v113 : Value).ownBlock ∧ some k_ ≠ (v116 : Value).ownBlock ∧ some k_ ≠ ((.slice Ao42 t123.length co42) : Value).ownBlock ∧ some k_ ≠ (v130 : Value).ownBlock ∧ some k_ ≠ (v133 : Value).ownBlock) (.slice Ao43 t126.length co43) t126) ∧ Aside0 (Kd.R (Kd.int .i64) 3 wc w.heap.size (fun k_ => some k_ ≠ (v113 : Value).ownBlock ∧ some k_ ≠ (v116 : Value).ownBlock ∧ some k_ ≠ ((.slice Ao42 t123.length co42) : Value).ownBlock ∧ some k_ ≠ ((.slice Ao43 t126.length co43) : Value).ownBlock ∧ some k_ ≠ (v133 : Value).ownBlock) v130 t129) ∧ Aside0 (Kd.R (Kd.int .i64) 3 wc w.heap.size (fun k_ => some k_ ≠ (v113 : Value).ownBlock ∧ some k_ ≠ (v116 : Value).ownBlock ∧ some k_ ≠ ((.slice Ao42 t123.length co42) : Value).ownBlock ∧ some k_ ≠ ((.slice Ao43 t126.length co43) : Value).ownBlock ∧ some k_ ≠ (v130 : Value).ownBlock) v133 t132) ∧ Aside0 (Kd.R k115 115 wc w.heap.size (fun _ => True) (.slice Ao36 t119.length co36) t119) ∧ Aside0 (wc.heap[gb101]? = some (.cells #[(.slice A0_0 l0_0.length c0_0)] 58 (0, 0))) ∧ Aside0 (wc.heap[gb122]? = some (.cells #[(.slice Ao36 t119.length co36)] 63 (0, 0))) ∧ Aside0 (Below w.heap.size w wc))
    case first =>
     have H := HC21.out
     clear HC21
     replace H := Option.bind_eq_some_iff.mp H
     obtain ⟨t136, A450, H⟩ := H
     replace H : (if t136 = true then ((laws_eqIntS.f k t132 t115).bind fun t137 => (if t137 = true then (laws_FnExactWitnessOf.j0 k l1 l2 t112 t115 t118 t123 t126 t129 t132 t135 (t135 != t118) l0_0 t119) else (laws_FnExactWitnessOf.j0 k l1 l2 t112 t115 t118 t123 t126 t129 t132 t135 true l0_0 t119))) else (laws_FnExactWitnessOf.j0 k l1 l2 t112 t115 t118 t123 t126 t129 t132 t135 true l0_0 t119)) = some r := H
     have A45 := am_ A450
     clear A450
     by_cases c46 : t136 = true
     ·
      subst c46
      have H1 : ((laws_eqIntS.f k t132 t115).bind fun t137 => (if t137 = true then (laws_FnExactWitnessOf.j0 k l1 l2 t112 t115 t118 t123 t126 t129 t132 t135 (t135 != t118) l0_0 t119) else (laws_FnExactWitnessOf.j0 k l1 l2 t112 t115 t118 t123 t126 t129 t132 t135 true l0_0 t119))) = some r := by rw [if_pos rfl] at H; exact H
      clear H
      have H := H1
      clear H1
      replace H := Option.bind_eq_some_iff.mp H
      obtain ⟨t137, A470, H⟩ := H
      replace H : (if t137 = true then (laws_FnExactWitnessOf.j0 k l1 l2 t112 t115 t118 t123 t126 t129 t132 t135 (t135 != t118) l0_0 t119) else (laws_FnExactWitnessOf.j0 k l1 l2 t112 t115 t118 t123 t126 t129 t132 t135 true l0_0 t119)) = some r := H
      have A47 := am_ A470
      clear A470
      by_cases c48 : t137 = true
      ·
       subst c48
       have H1 : (laws_FnExactWitnessOf.j0 k l1 l2 t112 t115 t118 t123 t126 t129 t132 t135 (t135 != t118) l0_0 t119) = some r := by rw [if_pos rfl] at H; exact H
       clear H
       have H := H1
       clear H1
       have H' := am_ H
       clear H
       obtain ⟨Ao49, co49, eo49⟩ := Kd.R_slice HO131.out
       subst eo49
       obtain ⟨Ao50, co50, eo50⟩ := Kd.R_slice HO114.out
       subst eo50
       go_wp2_with (first | ((with_reducible refine gate_callee (f := 18) rfl ?_); refine goesL_ (some 61) rfl rfl Try.func18 (by kernel_rfl) rfl #[.slice Ao49 t129.length co49, .slice Ao50 t112.length co50] rfl qz9_ ?_; (with_reducible refine (laws_eqIntS.calls k _ _ t129 _ _ t112 true _ ?side1 ?side2 ?side3 ?side4 A45.out).mono ?_); (case side1 => exact qc_ (Kd.R_reads' HO131.out).2.2); (case side2 => exact (Kd.R_reads' HO131.out).2.1); (case side3 => exact qc_ (Kd.R_reads' HO114.out).2.2); (case side4 => exact (Kd.R_reads' HO114.out).2.1); rintro e w' ⟨rfl, ⟨nd, rfl⟩⟩; refine ⟨_, rfl, ?_⟩; obtain ⟨Ao51, co51, eo51⟩ := Kd.R_slice HO134.out; subst eo51; obtain ⟨Ao52, co52, eo52⟩ := Kd.R_slice HO117.out; subst eo52) | (go_at_call 18; (with_reducible refine (laws_eqIntS.calls k _ _ t132 _ _ t115 true _ ?side1 ?side2 ?side3 ?side4 A47.out).mono ?_); (case side1 => exact qc_ (Kd.R_reads' HO134.out).2.2); (case side2 => exact (Kd.R_reads' HO134.out).2.1); (case side3 => exact qc_ (Kd.R_reads' HO117.out).2.2); (case side4 => exact (Kd.R_reads' HO117.out).2.1); rintro e w' ⟨rfl, ⟨nd, rfl⟩⟩))
       go_meet
       case rel => exact ⟨_, ((t135 != t118)), qz2_, H', ⟨qz14_⟩, ⟨by (with_reducible repeat (first | apply Kd.R_alloc | apply Kd.R_drewN | apply Kd.R_drew)); exact Kd.R_mono HO114.out (fun _ hk => ⟨hk.1.1.1.1.1.1, ⟨hk.1.1.1.2, ⟨hk.1.1.2, ⟨hk.1.2, hk.2⟩⟩⟩⟩)⟩, ⟨by (with_reducible repeat (first | apply Kd.R_alloc | apply Kd.R_drewN | apply Kd.R_drew)); exact Kd.R_mono HO117.out (fun _ hk => ⟨hk.1.1.1.1.1.1, ⟨hk.1.1.1.2, ⟨hk.1.1.2, ⟨hk.1.2, hk.2⟩⟩⟩⟩)⟩, ⟨by (with_reducible repeat (first | apply Kd.R_alloc | apply Kd.R_drewN | apply Kd.R_drew)); exact Kd.R_mono HO125.out (fun _ hk => ⟨hk.1.1.1.1.2, ⟨hk.1.1.1.2, ⟨hk.1.1.2, ⟨hk.1.2, hk.2⟩⟩⟩⟩)⟩, ⟨by (with_reducible repeat (first | apply Kd.R_alloc | apply Kd.R_drewN | apply Kd.R_drew)); exact Kd.R_mono HO128.out (fun _ hk => ⟨hk.1.1.1.1.2, ⟨hk.1.1.1.2, ⟨hk.1.1.2, ⟨hk.1.2, hk.2⟩⟩⟩⟩)⟩, ⟨by (with_reducible repeat (first | apply Kd.R_alloc | apply Kd.R_drewN | apply Kd.R_drew)); exact Kd.R_mono HO131.out (fun _ hk => ⟨hk.1.1.1.2, ⟨hk.1.1.2, ⟨hk.1.2, ⟨hk.2, hk.1.1.1.1.1.1⟩⟩⟩⟩)⟩, ⟨by (with_reducible repeat (first | apply Kd.R_alloc | apply Kd.R_drewN | apply Kd.R_drew)); exact Kd.R_mono HO134.out (fun _ hk => ⟨hk.1.1.1.2, ⟨hk.1.1.2, ⟨hk.1.2, ⟨hk.2, hk.1.1.1.1.1.1⟩⟩⟩⟩)⟩, ⟨(by (with_reducible repeat (first | apply Kd.R_alloc | apply Kd.R_drewN | apply Kd.R_drew)); exact Kd.R_mono HO121.out (fun _ hk => trivial))⟩, ⟨qz11_⟩, ⟨qz74_⟩, ⟨qz73_⟩⟩
      ·
       replace c48 := Bool.eq_false_iff.mpr c48
       subst c48
       have H1 : (laws_FnExactWitnessOf.j0 k l1 l2 t112 t115 t118 t123 t126 t129 t132 t135 true l0_0 t119) = some r := by rw [if_neg (show ¬ (false = true) by decide)] at H; exact H
       clear H
       have H := H1
       clear H1
       have H' := am_ H
       clear H
       obtain ⟨Ao53, co53, eo53⟩ := Kd.R_slice HO131.out
       subst eo53
       obtain ⟨Ao54, co54, eo54⟩ := Kd.R_slice HO114.out
       subst eo54
       go_wp2_with (first | ((with_reducible refine gate_callee (f := 18) rfl ?_); refine goesL_ (some 61) rfl rfl Try.func18 (by kernel_rfl) rfl #[.slice Ao53 t129.length co53, .slice Ao54 t112.length co54] rfl qz9_ ?_; (with_reducible refine (laws_eqIntS.calls k _ _ t129 _ _ t112 true _ ?side1 ?side2 ?side3 ?side4 A45.out).mono ?_); (case side1 => exact qc_ (Kd.R_reads' HO131.out).2.2); (case side2 => exact (Kd.R_reads' HO131.out).2.1); (case side3 => exact qc_ (Kd.R_reads' HO114.out).2.2); (case side4 => exact (Kd.R_reads' HO114.out).2.1); rintro e w' ⟨rfl, ⟨nd, rfl⟩⟩; refine ⟨_, rfl, ?_⟩; obtain ⟨Ao55, co55, eo55⟩ := Kd.R_slice HO134.out; subst eo55; obtain ⟨Ao56, co56, eo56⟩ := Kd.R_slice HO117.out; subst eo56) | (go_at_call 18; (with_reducible refine (laws_eqIntS.calls k _ _ t132 _ _ t115 false _ ?side1 ?side2 ?side3 ?side4 A47.out).mono ?_); (case side1 => exact qc_ (Kd.R_reads' HO134.out).2.2); (case side2 => exact (Kd.R_reads' HO134.out).2.1); (case side3 => exact qc_ (Kd.R_reads' HO117.out).2.2); (case side4 => exact (Kd.R_reads' HO117.out).2.1); rintro e w' ⟨rfl, ⟨nd, rfl⟩⟩))
       go_meet
       case rel => exact ⟨_, (true), qz2_, H', ⟨qz14_⟩, ⟨by (with_reducible repeat (first | apply Kd.R_alloc | apply Kd.R_drewN | apply Kd.R_drew)); exact Kd.R_mono HO114.out (fun _ hk => ⟨hk.1.1.1.1.1.1, ⟨hk.1.1.1.2, ⟨hk.1.1.2, ⟨hk.1.2, hk.2⟩⟩⟩⟩)⟩, ⟨by (with_reducible repeat (first | apply Kd.R_alloc | apply Kd.R_drewN | apply Kd.R_drew)); exact Kd.R_mono HO117.out (fun _ hk => ⟨hk.1.1.1.1.1.1, ⟨hk.1.1.1.2, ⟨hk.1.1.2, ⟨hk.1.2, hk.2⟩⟩⟩⟩)⟩, ⟨by (with_reducible repeat (first | apply Kd.R_alloc | apply Kd.R_drewN | apply Kd.R_drew)); exact Kd.R_mono HO125.out (fun _ hk => ⟨hk.1.1.1.1.2, ⟨hk.1.1.1.2, ⟨hk.1.1.2, ⟨hk.1.2, hk.2⟩⟩⟩⟩)⟩, ⟨by (with_reducible repeat (first | apply Kd.R_alloc | apply Kd.R_drewN | apply Kd.R_drew)); exact Kd.R_mono HO128.out (fun _ hk => ⟨hk.1.1.1.1.2, ⟨hk.1.1.1.2, ⟨hk.1.1.2, ⟨hk.1.2, hk.2⟩⟩⟩⟩)⟩, ⟨by (with_reducible repeat (first | apply Kd.R_alloc | apply Kd.R_drewN | apply Kd.R_drew)); exact Kd.R_mono HO131.out (fun _ hk => ⟨hk.1.1.1.2, ⟨hk.1.1.2, ⟨hk.1.2, ⟨hk.2, hk.1.1.1.1.1.1⟩⟩⟩⟩)⟩, ⟨by (with_reducible repeat (first | apply Kd.R_alloc | apply Kd.R_drewN | apply Kd.R_drew)); exact Kd.R_mono HO134.out (fun _ hk => ⟨hk.1.1.1.2, ⟨hk.1.1.2, ⟨hk.1.2, ⟨hk.2, hk.1.1.1.1.1.1⟩⟩⟩⟩)⟩, ⟨(by (with_reducible repeat (first | apply Kd.R_alloc | apply Kd.R_drewN | apply Kd.R_drew)); exact Kd.R_mono HO121.out (fun _ hk => trivial))⟩, ⟨qz11_⟩, ⟨qz74_⟩, ⟨qz73_⟩⟩
     ·
      replace c46 := Bool.eq_false_iff.mpr c46
      subst c46
      have H1 : (laws_FnExactWitnessOf.j0 k l1 l2 t112 t115 t118 t123 t126 t129 t132 t135 true l0_0 t119) = some r := by rw [if_neg (show ¬ (false = true) by decide)] at H; exact H
      clear H
      have H := H1
      clear H1
      have H' := am_ H
      clear H
      obtain ⟨Ao57, co57, eo57⟩ := Kd.R_slice HO131.out
      subst eo57
      obtain ⟨Ao58, co58, eo58⟩ := Kd.R_slice HO114.out
      subst eo58
      go_wp2_with (first | ((with_reducible refine gate_callee (f := 18) rfl ?_); refine goesL_ (some 61) rfl rfl Try.func18 (by kernel_rfl) rfl #[.slice Ao57 t129.length co57, .slice Ao58 t112.length co58] rfl qz9_ ?_; (with_reducible refine (laws_eqIntS.calls k _ _ t129 _ _ t112 false _ ?side1 ?side2 ?side3 ?side4 A45.out).mono ?_); (case side1 => exact qc_ (Kd.R_reads' HO131.out).2.2); (case side2 => exact (Kd.R_reads' HO131.out).2.1); (case side3 => exact qc_ (Kd.R_reads' HO114.out).2.2); (case side4 => exact (Kd.R_reads' HO114.out).2.1); rintro e w' ⟨rfl, ⟨nd, rfl⟩⟩; refine ⟨_, rfl, ?_⟩))
      go_meet
      case rel => exact ⟨_, (true), qz2_, H', ⟨qz14_⟩, ⟨by (with_reducible repeat (first | apply Kd.R_alloc | apply Kd.R_drewN | apply Kd.R_drew)); exact Kd.R_mono HO114.out (fun _ hk => ⟨hk.1.1.1.1.1.1, ⟨hk.1.1.1.2, ⟨hk.1.1.2, ⟨hk.1.2, hk.2⟩⟩⟩⟩)⟩, ⟨by (with_reducible repeat (first | apply Kd.R_alloc | apply Kd.R_drewN | apply Kd.R_drew)); exact Kd.R_mono HO117.out (fun _ hk => ⟨hk.1.1.1.1.1.1, ⟨hk.1.1.1.2, ⟨hk.1.1.2, ⟨hk.1.2, hk.2⟩⟩⟩⟩)⟩, ⟨by (with_reducible repeat (first | apply Kd.R_alloc | apply Kd.R_drewN | apply Kd.R_drew)); exact Kd.R_mono HO125.out (fun _ hk => ⟨hk.1.1.1.1.2, ⟨hk.1.1.1.2, ⟨hk.1.1.2, ⟨hk.1.2, hk.2⟩⟩⟩⟩)⟩, ⟨by (with_reducible repeat (first | apply Kd.R_alloc | apply Kd.R_drewN | apply Kd.R_drew)); exact Kd.R_mono HO128.out (fun _ hk => ⟨hk.1.1.1.1.2, ⟨hk.1.1.1.2, ⟨hk.1.1.2, ⟨hk.1.2, hk.2⟩⟩⟩⟩)⟩, ⟨by (with_reducible repeat (first | apply Kd.R_alloc | apply Kd.R_drewN | apply Kd.R_drew)); exact Kd.R_mono HO131.out (fun _ hk => ⟨hk.1.1.1.2, ⟨hk.1.1.2, ⟨hk.1.2, ⟨hk.2, hk.1.1.1.1.1.1⟩⟩⟩⟩)⟩, ⟨by (with_reducible repeat (first | apply Kd.R_alloc | apply Kd.R_drewN | apply Kd.R_drew)); exact Kd.R_mono HO134.out (fun _ hk => ⟨hk.1.1.1.2, ⟨hk.1.1.2, ⟨hk.1.2, ⟨hk.2, hk.1.1.1.1.1.1⟩⟩⟩⟩)⟩, ⟨(by (with_reducible repeat (first | apply Kd.R_alloc | apply Kd.R_drewN | apply Kd.R_drew)); exact Kd.R_mono HO121.out (fun _ hk => trivial))⟩, ⟨qz11_⟩, ⟨qz74_⟩, ⟨qz73_⟩⟩
    case rest =>
     clear HC21
     try clear c1
     try clear c2
     try clear p2
     try clear c3
     try clear c4
     try clear c4b0
     try clear c4b1
     try clear c6
     try clear c6b0
     try clear c6b1
     try clear c9
     try clear c9b0
     try clear c16
     try clear c18
     try clear c33
     try clear c35
     try clear c37
     try clear c39
     try clear c40
     try clear c46
     try clear c48
     try clear hcz11_0
     try clear hcz23_0
     try clear hcz25_0
     try clear hcz33_0
     try clear hcz38_0
     try clear hcz41_0
     try clear hfz11_0
     try clear hfz23_0
     try clear hfz25_0
     try clear hfz33_0
     try clear hfz38_0
     try clear hfz41_0
     obtain ⟨kq, x73_20, rfl, HA, HJ20, HO_8, HO_9, HO_12, HO_13, HO_14, HO_15, HO_123000, BK101, BK122, HB⟩ := hcut
     cases kq with
     | zero => exact absurd HA.out (by simp [laws_FnExactWitnessOf.j0])
     | succ kj20 =>
      have H := HA.out
      clear HA
      simp only [laws_FnExactWitnessOf.j0] at H
      by_cases c59 : x73_20 = true
      ·
       subst c59
       have H1 : (some false) = some r := by rw [if_pos rfl] at H; exact H
       clear H
       have H := H1
       clear H1
       exact absurd ((Option.some.inj H).trans hr_) (by decide)
      ·
       replace c59 := Bool.eq_false_iff.mpr c59
       subst c59
       have H1 : ((laws_toCircuit.f kj20 l0_0).bind fun t138 => ((laws_eqCircuit.f kj20 t119 t138).bind fun t141 => (if t141 = true then ((laws_toIntS.f kj20 l1).bind fun t142 => ((laws_eqIntS.f kj20 t123 t142).bind fun t145 => (if t145 = true then ((laws_toIntS.f kj20 l2).bind fun t146 => ((laws_eqIntS.f kj20 t126 t146).bind fun t149 => (if t149 = true then ((laws_markCircuit.f kj20 t119 1).bind fun bt150 => ((laws_markIntS.f kj20 t123 bt150.1).bind fun bt152 => ((laws_markIntS.f kj20 t126 bt152.1).bind fun bt154 => (if bt154.1 < 0 then (laws_FnExactWitnessOf.j1 kj20 l1 l2 t112 t115 t118 t129 t132 true l0_0) else ((laws_eqIntS.f kj20 t129 t112).bind fun t156 => (if t156 = true then ((laws_eqIntS.f kj20 t132 t115).bind fun t157 => (if t157 = true then (laws_FnExactWitnessOf.j1 kj20 l1 l2 t112 t115 t118 t129 t132 (t135 != t118) l0_0) else (laws_FnExactWitnessOf.j1 kj20 l1 l2 t112 t115 t118 t129 t132 true l0_0))) else (laws_FnExactWitnessOf.j1 kj20 l1 l2 t112 t115 t118 t129 t132 true l0_0))))))) else (some false)))) else (some false)))) else (some false)))) = some r := by rw [if_neg (show ¬ (false = true) by decide)] at H; exact H
       clear H
       have H := H1
       clear H1
       replace H := Option.bind_eq_some_iff.mp H
       obtain ⟨t138, A600, H⟩ := H
       replace H : ((laws_eqCircuit.f kj20 t119 t138).bind fun t141 => (if t141 = true then ((laws_toIntS.f kj20 l1).bind fun t142 => ((laws_eqIntS.f kj20 t123 t142).bind fun t145 => (if t145 = true then ((laws_toIntS.f kj20 l2).bind fun t146 => ((laws_eqIntS.f kj20 t126 t146).bind fun t149 => (if t149 = true then ((laws_markCircuit.f kj20 t119 1).bind fun bt150 => ((laws_markIntS.f kj20 t123 bt150.1).bind fun bt152 => ((laws_markIntS.f kj20 t126 bt152.1).bind fun bt154 => (if bt154.1 < 0 then (laws_FnExactWitnessOf.j1 kj20 l1 l2 t112 t115 t118 t129 t132 true l0_0) else ((laws_eqIntS.f kj20 t129 t112).bind fun t156 => (if t156 = true then ((laws_eqIntS.f kj20 t132 t115).bind fun t157 => (if t157 = true then (laws_FnExactWitnessOf.j1 kj20 l1 l2 t112 t115 t118 t129 t132 (t135 != t118) l0_0) else (laws_FnExactWitnessOf.j1 kj20 l1 l2 t112 t115 t118 t129 t132 true l0_0))) else (laws_FnExactWitnessOf.j1 kj20 l1 l2 t112 t115 t118 t129 t132 true l0_0))))))) else (some false)))) else (some false)))) else (some false))) = some r := H
       have A60 := am_ A600
       clear A600
       replace H := Option.bind_eq_some_iff.mp H
       obtain ⟨t141, A610, H⟩ := H
       replace H : (if t141 = true then ((laws_toIntS.f kj20 l1).bind fun t142 => ((laws_eqIntS.f kj20 t123 t142).bind fun t145 => (if t145 = true then ((laws_toIntS.f kj20 l2).bind fun t146 => ((laws_eqIntS.f kj20 t126 t146).bind fun t149 => (if t149 = true then ((laws_markCircuit.f kj20 t119 1).bind fun bt150 => ((laws_markIntS.f kj20 t123 bt150.1).bind fun bt152 => ((laws_markIntS.f kj20 t126 bt152.1).bind fun bt154 => (if bt154.1 < 0 then (laws_FnExactWitnessOf.j1 kj20 l1 l2 t112 t115 t118 t129 t132 true l0_0) else ((laws_eqIntS.f kj20 t129 t112).bind fun t156 => (if t156 = true then ((laws_eqIntS.f kj20 t132 t115).bind fun t157 => (if t157 = true then (laws_FnExactWitnessOf.j1 kj20 l1 l2 t112 t115 t118 t129 t132 (t135 != t118) l0_0) else (laws_FnExactWitnessOf.j1 kj20 l1 l2 t112 t115 t118 t129 t132 true l0_0))) else (laws_FnExactWitnessOf.j1 kj20 l1 l2 t112 t115 t118 t129 t132 true l0_0))))))) else (some false)))) else (some false)))) else (some false)) = some r := H
       have A61 := am_ A610
       clear A610
       by_cases c62 : t141 = true
       ·
        subst c62
        have H1 : ((laws_toIntS.f kj20 l1).bind fun t142 => ((laws_eqIntS.f kj20 t123 t142).bind fun t145 => (if t145 = true then ((laws_toIntS.f kj20 l2).bind fun t146 => ((laws_eqIntS.f kj20 t126 t146).bind fun t149 => (if t149 = true then ((laws_markCircuit.f kj20 t119 1).bind fun bt150 => ((laws_markIntS.f kj20 t123 bt150.1).bind fun bt152 => ((laws_markIntS.f kj20 t126 bt152.1).bind fun bt154 => (if bt154.1 < 0 then (laws_FnExactWitnessOf.j1 kj20 l1 l2 t112 t115 t118 t129 t132 true l0_0) else ((laws_eqIntS.f kj20 t129 t112).bind fun t156 => (if t156 = true then ((laws_eqIntS.f kj20 t132 t115).bind fun t157 => (if t157 = true then (laws_FnExactWitnessOf.j1 kj20 l1 l2 t112 t115 t118 t129 t132 (t135 != t118) l0_0) else (laws_FnExactWitnessOf.j1 kj20 l1 l2 t112 t115 t118 t129 t132 true l0_0))) else (laws_FnExactWitnessOf.j1 kj20 l1 l2 t112 t115 t118 t129 t132 true l0_0))))))) else (some false)))) else (some false)))) = some r := by rw [if_pos rfl] at H; exact H
        clear H
        have H := H1
        clear H1
        replace H := Option.bind_eq_some_iff.mp H
        obtain ⟨t142, A630, H⟩ := H
        replace H : ((laws_eqIntS.f kj20 t123 t142).bind fun t145 => (if t145 = true then ((laws_toIntS.f kj20 l2).bind fun t146 => ((laws_eqIntS.f kj20 t126 t146).bind fun t149 => (if t149 = true then ((laws_markCircuit.f kj20 t119 1).bind fun bt150 => ((laws_markIntS.f kj20 t123 bt150.1).bind fun bt152 => ((laws_markIntS.f kj20 t126 bt152.1).bind fun bt154 => (if bt154.1 < 0 then (laws_FnExactWitnessOf.j1 kj20 l1 l2 t112 t115 t118 t129 t132 true l0_0) else ((laws_eqIntS.f kj20 t129 t112).bind fun t156 => (if t156 = true then ((laws_eqIntS.f kj20 t132 t115).bind fun t157 => (if t157 = true then (laws_FnExactWitnessOf.j1 kj20 l1 l2 t112 t115 t118 t129 t132 (t135 != t118) l0_0) else (laws_FnExactWitnessOf.j1 kj20 l1 l2 t112 t115 t118 t129 t132 true l0_0))) else (laws_FnExactWitnessOf.j1 kj20 l1 l2 t112 t115 t118 t129 t132 true l0_0))))))) else (some false)))) else (some false))) = some r := H
        have A63 := am_ A630
        clear A630
        replace H := Option.bind_eq_some_iff.mp H
        obtain ⟨t145, A640, H⟩ := H
        replace H : (if t145 = true then ((laws_toIntS.f kj20 l2).bind fun t146 => ((laws_eqIntS.f kj20 t126 t146).bind fun t149 => (if t149 = true then ((laws_markCircuit.f kj20 t119 1).bind fun bt150 => ((laws_markIntS.f kj20 t123 bt150.1).bind fun bt152 => ((laws_markIntS.f kj20 t126 bt152.1).bind fun bt154 => (if bt154.1 < 0 then (laws_FnExactWitnessOf.j1 kj20 l1 l2 t112 t115 t118 t129 t132 true l0_0) else ((laws_eqIntS.f kj20 t129 t112).bind fun t156 => (if t156 = true then ((laws_eqIntS.f kj20 t132 t115).bind fun t157 => (if t157 = true then (laws_FnExactWitnessOf.j1 kj20 l1 l2 t112 t115 t118 t129 t132 (t135 != t118) l0_0) else (laws_FnExactWitnessOf.j1 kj20 l1 l2 t112 t115 t118 t129 t132 true l0_0))) else (laws_FnExactWitnessOf.j1 kj20 l1 l2 t112 t115 t118 t129 t132 true l0_0))))))) else (some false)))) else (some false)) = some r := H
        have A64 := am_ A640
        clear A640
        by_cases c65 : t145 = true
        ·
         subst c65
         have H1 : ((laws_toIntS.f kj20 l2).bind fun t146 => ((laws_eqIntS.f kj20 t126 t146).bind fun t149 => (if t149 = true then ((laws_markCircuit.f kj20 t119 1).bind fun bt150 => ((laws_markIntS.f kj20 t123 bt150.1).bind fun bt152 => ((laws_markIntS.f kj20 t126 bt152.1).bind fun bt154 => (if bt154.1 < 0 then (laws_FnExactWitnessOf.j1 kj20 l1 l2 t112 t115 t118 t129 t132 true l0_0) else ((laws_eqIntS.f kj20 t129 t112).bind fun t156 => (if t156 = true then ((laws_eqIntS.f kj20 t132 t115).bind fun t157 => (if t157 = true then (laws_FnExactWitnessOf.j1 kj20 l1 l2 t112 t115 t118 t129 t132 (t135 != t118) l0_0) else (laws_FnExactWitnessOf.j1 kj20 l1 l2 t112 t115 t118 t129 t132 true l0_0))) else (laws_FnExactWitnessOf.j1 kj20 l1 l2 t112 t115 t118 t129 t132 true l0_0))))))) else (some false)))) = some r := by rw [if_pos rfl] at H; exact H
         clear H
         have H := H1
         clear H1
         replace H := Option.bind_eq_some_iff.mp H
         obtain ⟨t146, A660, H⟩ := H
         replace H : ((laws_eqIntS.f kj20 t126 t146).bind fun t149 => (if t149 = true then ((laws_markCircuit.f kj20 t119 1).bind fun bt150 => ((laws_markIntS.f kj20 t123 bt150.1).bind fun bt152 => ((laws_markIntS.f kj20 t126 bt152.1).bind fun bt154 => (if bt154.1 < 0 then (laws_FnExactWitnessOf.j1 kj20 l1 l2 t112 t115 t118 t129 t132 true l0_0) else ((laws_eqIntS.f kj20 t129 t112).bind fun t156 => (if t156 = true then ((laws_eqIntS.f kj20 t132 t115).bind fun t157 => (if t157 = true then (laws_FnExactWitnessOf.j1 kj20 l1 l2 t112 t115 t118 t129 t132 (t135 != t118) l0_0) else (laws_FnExactWitnessOf.j1 kj20 l1 l2 t112 t115 t118 t129 t132 true l0_0))) else (laws_FnExactWitnessOf.j1 kj20 l1 l2 t112 t115 t118 t129 t132 true l0_0))))))) else (some false))) = some r := H
         have A66 := am_ A660
         clear A660
         replace H := Option.bind_eq_some_iff.mp H
         obtain ⟨t149, A670, H⟩ := H
         replace H : (if t149 = true then ((laws_markCircuit.f kj20 t119 1).bind fun bt150 => ((laws_markIntS.f kj20 t123 bt150.1).bind fun bt152 => ((laws_markIntS.f kj20 t126 bt152.1).bind fun bt154 => (if bt154.1 < 0 then (laws_FnExactWitnessOf.j1 kj20 l1 l2 t112 t115 t118 t129 t132 true l0_0) else ((laws_eqIntS.f kj20 t129 t112).bind fun t156 => (if t156 = true then ((laws_eqIntS.f kj20 t132 t115).bind fun t157 => (if t157 = true then (laws_FnExactWitnessOf.j1 kj20 l1 l2 t112 t115 t118 t129 t132 (t135 != t118) l0_0) else (laws_FnExactWitnessOf.j1 kj20 l1 l2 t112 t115 t118 t129 t132 true l0_0))) else (laws_FnExactWitnessOf.j1 kj20 l1 l2 t112 t115 t118 t129 t132 true l0_0))))))) else (some false)) = some r := H
         have A67 := am_ A670
         clear A670
         by_cases c68 : t149 = true
         ·
          subst c68
          have H1 : ((laws_markCircuit.f kj20 t119 1).bind fun bt150 => ((laws_markIntS.f kj20 t123 bt150.1).bind fun bt152 => ((laws_markIntS.f kj20 t126 bt152.1).bind fun bt154 => (if bt154.1 < 0 then (laws_FnExactWitnessOf.j1 kj20 l1 l2 t112 t115 t118 t129 t132 true l0_0) else ((laws_eqIntS.f kj20 t129 t112).bind fun t156 => (if t156 = true then ((laws_eqIntS.f kj20 t132 t115).bind fun t157 => (if t157 = true then (laws_FnExactWitnessOf.j1 kj20 l1 l2 t112 t115 t118 t129 t132 (t135 != t118) l0_0) else (laws_FnExactWitnessOf.j1 kj20 l1 l2 t112 t115 t118 t129 t132 true l0_0))) else (laws_FnExactWitnessOf.j1 kj20 l1 l2 t112 t115 t118 t129 t132 true l0_0))))))) = some r := by rw [if_pos rfl] at H; exact H
          clear H
          have H := H1
          clear H1
          replace H := Option.bind_eq_some_iff.mp H
          obtain ⟨⟨t150, t151⟩, A690, H⟩ := H
          replace H : ((laws_markIntS.f kj20 t123 t150).bind fun bt152 => ((laws_markIntS.f kj20 t126 bt152.1).bind fun bt154 => (if bt154.1 < 0 then (laws_FnExactWitnessOf.j1 kj20 l1 l2 t112 t115 t118 t129 t132 true l0_0) else ((laws_eqIntS.f kj20 t129 t112).bind fun t156 => (if t156 = true then ((laws_eqIntS.f kj20 t132 t115).bind fun t157 => (if t157 = true then (laws_FnExactWitnessOf.j1 kj20 l1 l2 t112 t115 t118 t129 t132 (t135 != t118) l0_0) else (laws_FnExactWitnessOf.j1 kj20 l1 l2 t112 t115 t118 t129 t132 true l0_0))) else (laws_FnExactWitnessOf.j1 kj20 l1 l2 t112 t115 t118 t129 t132 true l0_0)))))) = some r := H
          have A69 := am_ A690
          clear A690
          replace H := Option.bind_eq_some_iff.mp H
          obtain ⟨⟨t152, t153⟩, A700, H⟩ := H
          replace H : ((laws_markIntS.f kj20 t126 t152).bind fun bt154 => (if bt154.1 < 0 then (laws_FnExactWitnessOf.j1 kj20 l1 l2 t112 t115 t118 t129 t132 true l0_0) else ((laws_eqIntS.f kj20 t129 t112).bind fun t156 => (if t156 = true then ((laws_eqIntS.f kj20 t132 t115).bind fun t157 => (if t157 = true then (laws_FnExactWitnessOf.j1 kj20 l1 l2 t112 t115 t118 t129 t132 (t135 != t118) l0_0) else (laws_FnExactWitnessOf.j1 kj20 l1 l2 t112 t115 t118 t129 t132 true l0_0))) else (laws_FnExactWitnessOf.j1 kj20 l1 l2 t112 t115 t118 t129 t132 true l0_0))))) = some r := H
          have A70 := am_ A700
          clear A700
          replace H := Option.bind_eq_some_iff.mp H
          obtain ⟨⟨t154, t155⟩, A710, H⟩ := H
          replace H : (if t154 < 0 then (laws_FnExactWitnessOf.j1 kj20 l1 l2 t112 t115 t118 t129 t132 true l0_0) else ((laws_eqIntS.f kj20 t129 t112).bind fun t156 => (if t156 = true then ((laws_eqIntS.f kj20 t132 t115).bind fun t157 => (if t157 = true then (laws_FnExactWitnessOf.j1 kj20 l1 l2 t112 t115 t118 t129 t132 (t135 != t118) l0_0) else (laws_FnExactWitnessOf.j1 kj20 l1 l2 t112 t115 t118 t129 t132 true l0_0))) else (laws_FnExactWitnessOf.j1 kj20 l1 l2 t112 t115 t118 t129 t132 true l0_0)))) = some r := H
          have A71 := am_ A710
          clear A710
          have HC72 := am_ H
          clear H
          try go_wp2
          have n0_ := am_ (Kd.R_drew HO_8.out)
          have n1_ := am_ (Kd.R_drew HO_9.out)
          have n2_ := am_ (Kd.R_drew HO_12.out)
          have n3_ := am_ (Kd.R_drew HO_13.out)
          have n4_ := am_ (Kd.R_drew HO_14.out)
          have n5_ := am_ (Kd.R_drew HO_15.out)
          have n6_ := am_ (Kd.R_drew HO_123000.out)
          have n7_ := am_ (blk_drew BK101.out)
          have n8_ := am_ (blk_drew BK122.out)
          have n9_ := am_ (below_drew1 HB.out)
          clear HO_8
          clear HO_9
          clear HO_12
          clear HO_13
          clear HO_14
          clear HO_15
          clear HO_123000
          clear BK101
          clear BK122
          clear HB
          have HO_8 := n0_
          have HO_9 := n1_
          have HO_12 := n2_
          have HO_13 := n3_
          have HO_14 := n4_
          have HO_15 := n5_
          have HO_123000 := n6_
          have BK101 := n7_
          have BK122 := n8_
          have HB := n9_
          clear n0_ n1_ n2_ n3_ n4_ n5_ n6_ n7_ n8_ n9_
          refine start_ (n := 5) (S := fun w' => w'.cell? ⟨gb122, 0, none⟩ = some (.slice Ao36 t119.length co36) ∧ w'.cell? ⟨gb101, 0, none⟩ = some (.slice A0_0 l0_0.length c0_0)) (ds := []) #[false, false, false, false, false] (by kernel_rfl) rfl rfl ⟨(blk_cell BK122.out 0).trans rfl, (blk_cell BK101.out 0).trans rfl⟩ (fun hHeld => ?_)
          generalize wc.drew = w73 at HO_8 HO_9 HO_12 HO_13 HO_14 HO_15 HO_123000 BK101 BK122 HB hHeld ⊢
          refine take_ (i := 0) (N := some 74) (v := ?_) (a' := ?_) #[true, false, false, false, false] rfl rfl (by kernel_rfl) (fun _ _ _ h => h) (Or.inl ⟨(by rfl), ?_⟩) hHeld ?_ ?_
          rotate_left
          ·
           rintro w' ⟨s0, s1⟩
           go_simp
           with_reducible rfl
          rotate_left
          ·
           simp only [Act.put, List.setIfInBounds_toArray, List.set_cons_zero, List.set_cons_succ, i64_w, i32_w]
           rfl
          refine take_ (i := 1) (N := some 75) (v := ?_) (a' := ?_) #[true, true, false, false, false] rfl rfl (by kernel_rfl) (fun _ _ _ h => h) (Or.inl ⟨(by rfl), ?_⟩) hHeld ?_ ?_
          rotate_left
          ·
           rintro w' ⟨s0, s1⟩
           go_simp
           with_reducible rfl
          rotate_left
          ·
           simp only [Act.put, List.setIfInBounds_toArray, List.set_cons_zero, List.set_cons_succ, i64_w, i32_w]
           rfl
          refine one_ (i := 2) (N := some 76) #[true, true, true, false, false] rfl rfl (by kernel_rfl) (by decide) (fun K hK => ?_)
          refine goes_ Try.func35 (by kernel_rfl) rfl #[.agg #[.slice A0_0 l0_0.length c0_0]] (by rfl) rfl rfl qz9_ ?_
          with_reducible refine (laws_toCircuit.calls kj20 _ _ l0_0 t138 _ ?side1 ?side2 A60.out).mono ?_
          (case side1 => exact qc_ (Kd.C_below HR0_0.out HB.out))
          (case side2 => exact HC0_0.out)
          rintro e w74 ⟨v139, rfl, ho0, hb⟩
          refine ⟨_, rfl, ?_⟩
          have n0_ := am_ (Kd.R_below qz61_ hb)
          have n1_ := am_ (Kd.R_below qz75_ hb)
          have n2_ := am_ (Kd.R_below qz76_ hb)
          have n3_ := am_ (Kd.R_below qz77_ hb)
          have n4_ := am_ (Kd.R_below qz78_ hb)
          have n5_ := am_ (Kd.R_below qz79_ hb)
          have n6_ := am_ (Kd.R_elder' qz80_ (Kd.R_base ho0) hb)
          have n7_ := am_ (Kd.R_lower (Kd.R_new' ho0 (Kd.R_lt qz80_)) (below_size qz73_))
          have n8_ := am_ (blk_below (g := gb101) (o := .cells #[.slice A0_0 l0_0.length c0_0] 58 (0, 0)) qz11_ hb)
          have n9_ := am_ (blk_below (g := gb122) (o := .cells #[.slice Ao36 t119.length co36] 63 (0, 0)) qz74_ hb)
          have n10_ := am_ (below_step qz73_ hb)
          clear HO_8
          clear HO_9
          clear HO_12
          clear HO_13
          clear HO_14
          clear HO_15
          clear HO_123000
          clear BK101
          clear BK122
          clear HB
          have HO_8 := n0_
          have HO_9 := n1_
          have HO_12 := n2_
          have HO_13 := n3_
          have HO_14 := n4_
          have HO_15 := n5_
          have HO_123000 := n6_
          have HO140 := n7_
          have BK101 := n8_
          have BK122 := n9_
          have HB := n10_
          clear n0_ n1_ n2_ n3_ n4_ n5_ n6_ n7_ n8_ n9_ n10_
          (try clear hb)
          (try clear hb2)
          (try clear hk)
          (try clear hi)
          (try clear ho0)
          obtain ⟨Ao75, co75, eo75⟩ := Kd.R_slice HO140.out
          (first | subst eo75 | (injection eo75 with f1_ f2_ f3_; have f4_ := f1_.symm; have f5_ := f3_.symm; clear f1_ f2_ f3_; subst f4_; subst f5_))
          refine hK.out _ _ ⟨(blk_cell BK122.out 0).trans rfl, (blk_cell BK101.out 0).trans rfl⟩ (fun hHeld => ?_)
          clear hK K
          refine norm_ (a' := ?_) ?_ ?_
          rotate_left
          ·
           show Act.put _ (some 76) _ = _
           simp only [Act.put, List.setIfInBounds_toArray, List.set_cons_zero, List.set_cons_succ, i64_w, i32_w]
           rfl
          refine one_ (i := 3) (N := some 77) #[true, true, true, true, false] rfl rfl (by kernel_rfl) (by decide) (fun K hK => ?_)
          refine goes_ Try.func37 (by kernel_rfl) rfl #[.agg #[.slice Ao36 t119.length co36], .agg #[.slice Ao75 t138.length co75]] (by rfl) rfl rfl qz9_ ?_
          with_reducible refine (laws_eqCircuit.calls kj20 _ _ t119 _ _ t138 true _ ?side1 ?side2 ?side3 ?side4 A61.out).mono ?_
          (case side1 => exact qc_ (Kd.R_reads' HO_123000.out).2.2)
          (case side2 => exact (Kd.R_reads' HO_123000.out).2.1)
          (case side3 => exact qc_ (Kd.R_reads' HO140.out).2.2)
          (case side4 => exact (Kd.R_reads' HO140.out).2.1)
          rintro e w76 ⟨rfl, hb⟩
          refine ⟨_, rfl, ?_⟩
          have n0_ := am_ (Kd.R_below qz61_ hb)
          have n1_ := am_ (Kd.R_below qz75_ hb)
          have n2_ := am_ (Kd.R_below qz76_ hb)
          have n3_ := am_ (Kd.R_below qz77_ hb)
          have n4_ := am_ (Kd.R_below qz78_ hb)
          have n5_ := am_ (Kd.R_below qz79_ hb)
          have n6_ := am_ (Kd.R_below qz80_ hb)
          have n7_ := am_ (Kd.R_below (by (with_reducible repeat (first | apply Kd.R_alloc | apply Kd.R_drewN | apply Kd.R_drew)); exact HO140.out) hb)
          have n8_ := am_ (blk_below (g := gb101) (o := .cells #[.slice A0_0 l0_0.length c0_0] 58 (0, 0)) qz11_ hb)
          have n9_ := am_ (blk_below (g := gb122) (o := .cells #[.slice Ao36 t119.length co36] 63 (0, 0)) qz74_ hb)
          have n10_ := am_ (below_step qz73_ hb)
          clear HO_8
          clear HO_9
          clear HO_12
          clear HO_13
          clear HO_14
          clear HO_15
          clear HO_123000
          clear HO140
          clear BK101
          clear BK122
          clear HB
          have HO_8 := n0_
          have HO_9 := n1_
          have HO_12 := n2_
          have HO_13 := n3_
          have HO_14 := n4_
          have HO_15 := n5_
          have HO_123000 := n6_
          have HO140 := n7_
          have BK101 := n8_
          have BK122 := n9_
          have HB := n10_
          clear n0_ n1_ n2_ n3_ n4_ n5_ n6_ n7_ n8_ n9_ n10_
          (try clear hb)
          (try clear hb2)
          (try clear hk)
          (try clear hi)
          refine hK.out _ _ ⟨(blk_cell BK122.out 0).trans rfl, (blk_cell BK101.out 0).trans rfl⟩ (fun hHeld => ?_)
          clear hK K
          refine norm_ (a' := ?_) ?_ ?_
          rotate_left
          ·
           show Act.put _ (some 77) _ = _
           simp only [Act.put, List.setIfInBounds_toArray, List.set_cons_zero, List.set_cons_succ, i64_w, i32_w]
           rfl
          refine pure_ (i := 4) (N := some 78) (v := ?_) (a' := ?_) #[true, true, true, true, true] rfl rfl (by kernel_rfl) (fun _ _ _ h => h) (Or.inl ⟨(by rfl), ?_⟩) ?_ ?_
          rotate_left
          ·
           intro w'
           go_simp
           with_reducible rfl
          rotate_left
          ·
           simp only [Act.put, List.setIfInBounds_toArray, List.set_cons_zero, List.set_cons_succ, i64_w, i32_w]
           rfl
          refine done_ (by kernel_rfl) ?_
          go_upto_region 26 with (first | ((with_reducible refine gate_callee (f := 16) rfl ?_); refine goesL_ (some 81) rfl rfl Try.func16 (by kernel_rfl) rfl #[.slice A1 l1.length c1] rfl qz9_ ?_; (with_reducible refine (laws_toIntS.calls kj20 _ _ l1 t142 _ ?side1 ?side2 A63.out).mono ?_); (case side1 => exact qc_ (Kd.C_below HR1.out HB.out)); (case side2 => exact HC1.out); rintro e w77 ⟨v143, rfl, ho0, hb⟩; refine ⟨_, rfl, ?_⟩; have n0_ := am_ (Kd.R_elder' qz61_ (Kd.R_base ho0) hb); have n1_ := am_ (Kd.R_elder' qz75_ (Kd.R_base ho0) hb); have n2_ := am_ (Kd.R_elder' qz76_ (Kd.R_base ho0) hb); have n3_ := am_ (Kd.R_elder' qz77_ (Kd.R_base ho0) hb); have n4_ := am_ (Kd.R_elder' qz78_ (Kd.R_base ho0) hb); have n5_ := am_ (Kd.R_elder' qz79_ (Kd.R_base ho0) hb); have n6_ := am_ (Kd.R_below qz80_ hb); have n7_ := am_ (Kd.R_below (by (with_reducible repeat (first | apply Kd.R_alloc | apply Kd.R_drewN | apply Kd.R_drew)); exact HO140.out) hb); have n8_ := am_ (Kd.R_lower (Kd.R_new' (Kd.R_new' (Kd.R_new' (Kd.R_new' (Kd.R_new' (Kd.R_new' ho0 (Kd.R_lt qz61_)) (Kd.R_lt qz75_)) (Kd.R_lt qz76_)) (Kd.R_lt qz77_)) (Kd.R_lt qz78_)) (Kd.R_lt qz79_)) (below_size qz73_)); have n9_ := am_ (blk_below (g := gb101) (o := .cells #[.slice A0_0 l0_0.length c0_0] 58 (0, 0)) qz11_ hb); have n10_ := am_ (blk_below (g := gb122) (o := .cells #[.slice Ao36 t119.length co36] 63 (0, 0)) qz74_ hb); have n11_ := am_ (below_step qz73_ hb); clear HO_8; clear HO_9; clear HO_12; clear HO_13; clear HO_14; clear HO_15; clear HO_123000; clear HO140; clear BK101; clear BK122; clear HB; have HO_8 := n0_; have HO_9 := n1_; have HO_12 := n2_; have HO_13 := n3_; have HO_14 := n4_; have HO_15 := n5_; have HO_123000 := n6_; have HO140 := n7_; have HO144 := n8_; have BK101 := n9_; have BK122 := n10_; have HB := n11_; clear n0_ n1_ n2_ n3_ n4_ n5_ n6_ n7_ n8_ n9_ n10_ n11_; (try clear hb); (try clear hb2); (try clear hk); (try clear hi); (try clear ho0); obtain ⟨Ao78, co78, eo78⟩ := Kd.R_slice HO144.out; subst eo78) | ((with_reducible refine gate_callee (f := 18) rfl ?_); refine goesL_ (some 82) rfl rfl Try.func18 (by kernel_rfl) rfl #[.slice Ao42 t123.length co42, .slice Ao78 t142.length co78] rfl qz9_ ?_; (with_reducible refine (laws_eqIntS.calls kj20 _ _ t123 _ _ t142 true _ ?side1 ?side2 ?side3 ?side4 A64.out).mono ?_); (case side1 => exact qc_ (Kd.R_reads' HO_12.out).2.2); (case side2 => exact (Kd.R_reads' HO_12.out).2.1); (case side3 => exact qc_ (Kd.R_reads' HO144.out).2.2); (case side4 => exact (Kd.R_reads' HO144.out).2.1); rintro e w' ⟨rfl, ⟨nd, rfl⟩⟩; refine ⟨_, rfl, ?_⟩) | ((with_reducible refine gate_callee (f := 16) rfl ?_); refine goesL_ (some 86) rfl rfl Try.func16 (by kernel_rfl) rfl #[.slice A2 l2.length c2] rfl qz9_ ?_; (with_reducible refine (laws_toIntS.calls kj20 _ _ l2 t146 _ ?side1 ?side2 A66.out).mono ?_); (case side1 => repeat (first | exact (Kd.C_below HR2.out qz73_) | (with_reducible refine Kd.C_alloc ?_ _) | (with_reducible refine Kd.C_drewN ?_ _) | (with_reducible refine Kd.C_drew ?_))); (case side2 => exact HC2.out); rintro e w79 ⟨v147, rfl, ho0, hb⟩; refine ⟨_, rfl, ?_⟩; have n0_ := am_ (Kd.R_elder' qz61_ (Kd.R_base ho0) hb); have n1_ := am_ (Kd.R_elder' qz75_ (Kd.R_base ho0) hb); have n2_ := am_ (Kd.R_elder' qz76_ (Kd.R_base ho0) hb); have n3_ := am_ (Kd.R_elder' qz77_ (Kd.R_base ho0) hb); have n4_ := am_ (Kd.R_elder' qz78_ (Kd.R_base ho0) hb); have n5_ := am_ (Kd.R_elder' qz79_ (Kd.R_base ho0) hb); have n6_ := am_ (Kd.R_below qz80_ hb); have n7_ := am_ (Kd.R_below (by (with_reducible repeat (first | apply Kd.R_alloc | apply Kd.R_drewN | apply Kd.R_drew)); exact HO140.out) hb); have n8_ := am_ (Kd.R_elder' (by (with_reducible repeat (first | apply Kd.R_alloc | apply Kd.R_drewN | apply Kd.R_drew)); exact HO144.out) (Kd.R_base ho0) hb); have n9_ := am_ (Kd.R_lower (Kd.R_new' (Kd.R_new' (Kd.R_new' (Kd.R_new' (Kd.R_new' (Kd.R_new' (Kd.R_new' ho0 (Kd.R_lt qz61_)) (Kd.R_lt qz75_)) (Kd.R_lt qz76_)) (Kd.R_lt qz77_)) (Kd.R_lt qz78_)) (Kd.R_lt qz79_)) (Kd.R_lt (by (with_reducible repeat (first | apply Kd.R_alloc | apply Kd.R_drewN | apply Kd.R_drew)); exact HO144.out))) (below_size qz73_)); have n10_ := am_ (blk_below (g := gb101) (o := .cells #[.slice A0_0 l0_0.length c0_0] 58 (0, 0)) qz11_ hb); have n11_ := am_ (blk_below (g := gb122) (o := .cells #[.slice Ao36 t119.length co36] 63 (0, 0)) qz74_ hb); have n12_ := am_ (below_step qz73_ hb); clear HO_8; clear HO_9; clear HO_12; clear HO_13; clear HO_14; clear HO_15; clear HO_123000; clear HO140; clear HO144; clear BK101; clear BK122; clear HB; have HO_8 := n0_; have HO_9 := n1_; have HO_12 := n2_; have HO_13 := n3_; have HO_14 := n4_; have HO_15 := n5_; have HO_123000 := n6_; have HO140 := n7_; have HO144 := n8_; have HO148 := n9_; have BK101 := n10_; have BK122 := n11_; have HB := n12_; clear n0_ n1_ n2_ n3_ n4_ n5_ n6_ n7_ n8_ n9_ n10_ n11_ n12_; (try clear hb); (try clear hb2); (try clear hk); (try clear hi); (try clear ho0); obtain ⟨Ao80, co80, eo80⟩ := Kd.R_slice HO148.out; subst eo80) | ((with_reducible refine gate_callee (f := 18) rfl ?_); refine goesL_ (some 87) rfl rfl Try.func18 (by kernel_rfl) rfl #[.slice Ao43 t126.length co43, .slice Ao80 t146.length co80] rfl qz9_ ?_; (with_reducible refine (laws_eqIntS.calls kj20 _ _ t126 _ _ t146 true _ ?side1 ?side2 ?side3 ?side4 A67.out).mono ?_); (case side1 => exact qc_ (Kd.R_reads' HO_13.out).2.2); (case side2 => exact (Kd.R_reads' HO_13.out).2.1); (case side3 => exact qc_ (Kd.R_reads' HO148.out).2.2); (case side4 => exact (Kd.R_reads' HO148.out).2.1); rintro e w' ⟨rfl, ⟨nd, rfl⟩⟩; refine ⟨_, rfl, ?_⟩; have hnb81 := NB122_101.out; have hnc81 := NB101_122.out; have hcz82_0 : w79.cell? ⟨gb122, 0, none⟩ = some (.slice Ao36 t119.length co36) := (blk_cell BK122.out 0).trans rfl; have hfz82_0 := blk_frozen BK122.out 0) | ((with_reducible refine gate_callee (f := 38) rfl ?_); refine goesL_ (some 91) rfl rfl Try.func38 (by kernel_rfl) rfl #[.agg #[.slice Ao36 t119.length co36], .int .i64 1] rfl qz9_ ?_; (with_reducible refine (laws_markCircuit.calls kj20 (fun k_ => some k_ = (.slice Ao36 t119.length co36 : Value).ownBlock) (.slice Ao36 t119.length co36) t119 1 t150 t151 w _ ?side1 ?side2 A69.out).mono ?_); (case side1 => repeat (first | (with_reducible first | exact HB.out | apply below_alloc | apply pw_below_drewN | apply below_drew1 | refine below_set ?_ GE101.out | refine below_set ?_ GE122.out) | exact HB.out)); (case side2 => exact Kd.R_tight rfl HO_123000.out); rintro e w83 ⟨rfl, hy0, hb, hkp⟩; refine ⟨_, rfl, ?_⟩; have n0_ := am_ (Kd.R_mono (ok' := fun k_ => some k_ ≠ (v116 : Value).ownBlock ∧ some k_ ≠ (.slice Ao42 t123.length co42 : Value).ownBlock ∧ some k_ ≠ (.slice Ao43 t126.length co43 : Value).ownBlock ∧ some k_ ≠ (v130 : Value).ownBlock ∧ some k_ ≠ (v133 : Value).ownBlock ∧ some k_ ≠ (.slice Ao78 t142.length co78 : Value).ownBlock ∧ some k_ ≠ (.slice Ao80 t146.length co80 : Value).ownBlock) (Kd.R_keptB ((Kd.R_apart' HO_8.out (Kd.R_typed HO_123000.out) (by decide))) hkp (fun k_ hk_ hs_ => (hk_.2) hs_)) (fun k_ hk_ => ⟨hk_.1.1.1.1.1, hk_.1.1.1.1.2.1, hk_.1.1.1.1.2.2.1, hk_.1.1.1.1.2.2.2.1, hk_.1.1.1.1.2.2.2.2, hk_.1.1.1.2, hk_.1.1.2⟩)); have n1_ := am_ (Kd.R_mono (ok' := fun k_ => some k_ ≠ (v113 : Value).ownBlock ∧ some k_ ≠ (.slice Ao42 t123.length co42 : Value).ownBlock ∧ some k_ ≠ (.slice Ao43 t126.length co43 : Value).ownBlock ∧ some k_ ≠ (v130 : Value).ownBlock ∧ some k_ ≠ (v133 : Value).ownBlock ∧ some k_ ≠ (.slice Ao78 t142.length co78 : Value).ownBlock ∧ some k_ ≠ (.slice Ao80 t146.length co80 : Value).ownBlock) (Kd.R_keptB ((Kd.R_apart' HO_9.out (Kd.R_typed HO_123000.out) (by decide))) hkp (fun k_ hk_ hs_ => (hk_.2) hs_)) (fun k_ hk_ => ⟨hk_.1.1.1.1.1, hk_.1.1.1.1.2.1, hk_.1.1.1.1.2.2.1, hk_.1.1.1.1.2.2.2.1, hk_.1.1.1.1.2.2.2.2, hk_.1.1.1.2, hk_.1.1.2⟩)); have n2_ := am_ (Kd.R_mono (ok' := fun k_ => some k_ ≠ (v113 : Value).ownBlock ∧ some k_ ≠ (v116 : Value).ownBlock ∧ some k_ ≠ (.slice Ao43 t126.length co43 : Value).ownBlock ∧ some k_ ≠ (v130 : Value).ownBlock ∧ some k_ ≠ (v133 : Value).ownBlock ∧ some k_ ≠ (.slice Ao78 t142.length co78 : Value).ownBlock ∧ some k_ ≠ (.slice Ao80 t146.length co80 : Value).ownBlock) (Kd.R_keptB ((Kd.R_apart' HO_12.out (Kd.R_typed HO_123000.out) (by decide))) hkp (fun k_ hk_ hs_ => (hk_.2) hs_)) (fun k_ hk_ => ⟨hk_.1.1.1.1.1, hk_.1.1.1.1.2.1, hk_.1.1.1.1.2.2.1, hk_.1.1.1.1.2.2.2.1, hk_.1.1.1.1.2.2.2.2, hk_.1.1.1.2, hk_.1.1.2⟩)); have n3_ := am_ (Kd.R_mono (ok' := fun k_ => some k_ ≠ (v113 : Value).ownBlock ∧ some k_ ≠ (v116 : Value).ownBlock ∧ some k_ ≠ (.slice Ao42 t123.length co42 : Value).ownBlock ∧ some k_ ≠ (v130 : Value).ownBlock ∧ some k_ ≠ (v133 : Value).ownBlock ∧ some k_ ≠ (.slice Ao78 t142.length co78 : Value).ownBlock ∧ some k_ ≠ (.slice Ao80 t146.length co80 : Value).ownBlock) (Kd.R_keptB ((Kd.R_apart' HO_13.out (Kd.R_typed HO_123000.out) (by decide))) hkp (fun k_ hk_ hs_ => (hk_.2) hs_)) (fun k_ hk_ => ⟨hk_.1.1.1.1.1, hk_.1.1.1.1.2.1, hk_.1.1.1.1.2.2.1, hk_.1.1.1.1.2.2.2.1, hk_.1.1.1.1.2.2.2.2, hk_.1.1.1.2, hk_.1.1.2⟩)); have n4_ := am_ (Kd.R_mono (ok' := fun k_ => some k_ ≠ (v113 : Value).ownBlock ∧ some k_ ≠ (v116 : Value).ownBlock ∧ some k_ ≠ (.slice Ao42 t123.length co42 : Value).ownBlock ∧ some k_ ≠ (.slice Ao43 t126.length co43 : Value).ownBlock ∧ some k_ ≠ (v133 : Value).ownBlock ∧ some k_ ≠ (.slice Ao78 t142.length co78 : Value).ownBlock ∧ some k_ ≠ (.slice Ao80 t146.length co80 : Value).ownBlock) (Kd.R_keptB ((Kd.R_apart' HO_14.out (Kd.R_typed HO_123000.out) (by decide))) hkp (fun k_ hk_ hs_ => (hk_.2) hs_)) (fun k_ hk_ => ⟨hk_.1.1.1.1.1, hk_.1.1.1.1.2.1, hk_.1.1.1.1.2.2.1, hk_.1.1.1.1.2.2.2.1, hk_.1.1.1.1.2.2.2.2, hk_.1.1.1.2, hk_.1.1.2⟩)); have n5_ := am_ (Kd.R_mono (ok' := fun k_ => some k_ ≠ (v113 : Value).ownBlock ∧ some k_ ≠ (v116 : Value).ownBlock ∧ some k_ ≠ (.slice Ao42 t123.length co42 : Value).ownBlock ∧ some k_ ≠ (.slice Ao43 t126.length co43 : Value).ownBlock ∧ some k_ ≠ (v130 : Value).ownBlock ∧ some k_ ≠ (.slice Ao78 t142.length co78 : Value).ownBlock ∧ some k_ ≠ (.slice Ao80 t146.length co80 : Value).ownBlock) (Kd.R_keptB ((Kd.R_apart' HO_15.out (Kd.R_typed HO_123000.out) (by decide))) hkp (fun k_ hk_ hs_ => (hk_.2) hs_)) (fun k_ hk_ => ⟨hk_.1.1.1.1.1, hk_.1.1.1.1.2.1, hk_.1.1.1.1.2.2.1, hk_.1.1.1.1.2.2.2.1, hk_.1.1.1.1.2.2.2.2, hk_.1.1.1.2, hk_.1.1.2⟩)); have n6_ := am_ (Kd.R_reok rfl hy0 (fun k_ e_ => HO_123000.out.1 k_ e_)); have n7_ := am_ (blk_kept qz11_ hkp (fun hs_ => (fun e_ => (Kd.R_ne HO_123000.out BK101.out (by decide)) e_) hs_)); have n8_ := am_ (blk_kept qz74_ hkp (fun hs_ => (fun e_ => (Kd.R_ne HO_123000.out BK122.out (by decide)) e_) hs_)); have n9_ := am_ (Kd.R_mono (ok' := fun k_ => some k_ ≠ (.slice Ao36 t119.length co36 : Value).ownBlock) (Kd.R_keptB (HO140.out) hkp (fun k_ hk_ hs_ => (hk_.2) hs_)) (fun k_ hk_ => hk_.1.2)); have n10_ := am_ (Kd.R_mono (ok' := fun k_ => some k_ ≠ (v113 : Value).ownBlock ∧ some k_ ≠ (v116 : Value).ownBlock ∧ some k_ ≠ (.slice Ao42 t123.length co42 : Value).ownBlock ∧ some k_ ≠ (.slice Ao43 t126.length co43 : Value).ownBlock ∧ some k_ ≠ (v130 : Value).ownBlock ∧ some k_ ≠ (v133 : Value).ownBlock ∧ some k_ ≠ (.slice Ao80 t146.length co80 : Value).ownBlock) (Kd.R_keptB ((Kd.R_apart' HO144.out (Kd.R_typed HO_123000.out) (by decide))) hkp (fun k_ hk_ hs_ => (hk_.2) hs_)) (fun k_ hk_ => ⟨hk_.1.1.1.1.1.1.1.1.2, hk_.1.1.1.1.1.1.1.2, hk_.1.1.1.1.1.1.2, hk_.1.1.1.1.1.2, hk_.1.1.1.1.2, hk_.1.1.1.2, hk_.1.1.2⟩)); have n11_ := am_ (Kd.R_mono (ok' := fun k_ => some k_ ≠ (v113 : Value).ownBlock ∧ some k_ ≠ (v116 : Value).ownBlock ∧ some k_ ≠ (.slice Ao42 t123.length co42 : Value).ownBlock ∧ some k_ ≠ (.slice Ao43 t126.length co43 : Value).ownBlock ∧ some k_ ≠ (v130 : Value).ownBlock ∧ some k_ ≠ (v133 : Value).ownBlock ∧ some k_ ≠ (.slice Ao78 t142.length co78 : Value).ownBlock) (Kd.R_keptB ((Kd.R_apart' HO148.out (Kd.R_typed HO_123000.out) (by decide))) hkp (fun k_ hk_ hs_ => (hk_.2) hs_)) (fun k_ hk_ => ⟨hk_.1.1.1.1.1.1.1.1.2, hk_.1.1.1.1.1.1.1.2, hk_.1.1.1.1.1.1.2, hk_.1.1.1.1.1.2, hk_.1.1.1.1.2, hk_.1.1.1.2, hk_.1.1.2⟩)); have n12_ := am_ (hb); clear HO_8; clear HO_9; clear HO_12; clear HO_13; clear HO_14; clear HO_15; clear HO_123000; clear BK101; clear BK122; clear HO140; clear HO144; clear HO148; clear HB; have HO_8 := n0_; have HO_9 := n1_; have HO_12 := n2_; have HO_13 := n3_; have HO_14 := n4_; have HO_15 := n5_; have HO_123000 := n6_; have BK101 := n7_; have BK122 := n8_; have HO140 := n9_; have HO144 := n10_; have HO148 := n11_; have HB := n12_; clear n0_ n1_ n2_ n3_ n4_ n5_ n6_ n7_ n8_ n9_ n10_ n11_ n12_; (try clear hb); (try clear hkp); (try clear hy0)) | ((with_reducible refine gate_callee (f := 20) rfl ?_); refine goesL_ (some 94) rfl rfl Try.func20 (by kernel_rfl) rfl #[.slice Ao42 t123.length co42, .int .i64 t150] rfl qz9_ ?_; (with_reducible refine (laws_markIntS.calls kj20 (fun k_ => some k_ = (.slice Ao42 t123.length co42 : Value).ownBlock) (.slice Ao42 t123.length co42) t123 t150 t152 t153 w _ ?side1 ?side2 A70.out).mono ?_); (case side1 => repeat (first | (with_reducible first | exact HB.out | apply below_alloc | apply pw_below_drewN | apply below_drew1 | refine below_set ?_ GE101.out | refine below_set ?_ GE122.out) | exact HB.out)); (case side2 => exact Kd.R_tight rfl HO_12.out); rintro e w84 ⟨rfl, hy0, hb, hkp⟩; refine ⟨_, rfl, ?_⟩; have n0_ := am_ (Kd.R_mono (ok' := fun k_ => some k_ ≠ (v116 : Value).ownBlock ∧ some k_ ≠ (.slice Ao42 t123.length co42 : Value).ownBlock ∧ some k_ ≠ (.slice Ao43 t126.length co43 : Value).ownBlock ∧ some k_ ≠ (v130 : Value).ownBlock ∧ some k_ ≠ (v133 : Value).ownBlock ∧ some k_ ≠ (.slice Ao78 t142.length co78 : Value).ownBlock ∧ some k_ ≠ (.slice Ao80 t146.length co80 : Value).ownBlock) (Kd.R_keptB (HO_8.out) hkp (fun k_ hk_ hs_ => (hk_.2.1) hs_)) (fun k_ hk_ => ⟨hk_.1.1, hk_.1.2.1, hk_.1.2.2.1, hk_.1.2.2.2.1, hk_.1.2.2.2.2.1, hk_.1.2.2.2.2.2.1, hk_.1.2.2.2.2.2.2⟩)); have n1_ := am_ (Kd.R_mono (ok' := fun k_ => some k_ ≠ (v113 : Value).ownBlock ∧ some k_ ≠ (.slice Ao42 t123.length co42 : Value).ownBlock ∧ some k_ ≠ (.slice Ao43 t126.length co43 : Value).ownBlock ∧ some k_ ≠ (v130 : Value).ownBlock ∧ some k_ ≠ (v133 : Value).ownBlock ∧ some k_ ≠ (.slice Ao78 t142.length co78 : Value).ownBlock ∧ some k_ ≠ (.slice Ao80 t146.length co80 : Value).ownBlock) (Kd.R_keptB (HO_9.out) hkp (fun k_ hk_ hs_ => (hk_.2.1) hs_)) (fun k_ hk_ => ⟨hk_.1.1, hk_.1.2.1, hk_.1.2.2.1, hk_.1.2.2.2.1, hk_.1.2.2.2.2.1, hk_.1.2.2.2.2.2.1, hk_.1.2.2.2.2.2.2⟩)); have n2_ := am_ (Kd.R_reok rfl hy0 (fun k_ e_ => HO_12.out.1 k_ e_)); have n3_ := am_ (Kd.R_mono (ok' := fun k_ => some k_ ≠ (v113 : Value).ownBlock ∧ some k_ ≠ (v116 : Value).ownBlock ∧ some k_ ≠ (.slice Ao42 t123.length co42 : Value).ownBlock ∧ some k_ ≠ (v130 : Value).ownBlock ∧ some k_ ≠ (v133 : Value).ownBlock ∧ some k_ ≠ (.slice Ao78 t142.length co78 : Value).ownBlock ∧ some k_ ≠ (.slice Ao80 t146.length co80 : Value).ownBlock) (Kd.R_keptB (HO_13.out) hkp (fun k_ hk_ hs_ => (hk_.2.2.1) hs_)) (fun k_ hk_ => ⟨hk_.1.1, hk_.1.2.1, hk_.1.2.2.1, hk_.1.2.2.2.1, hk_.1.2.2.2.2.1, hk_.1.2.2.2.2.2.1, hk_.1.2.2.2.2.2.2⟩)); have n4_ := am_ (Kd.R_mono (ok' := fun k_ => some k_ ≠ (v113 : Value).ownBlock ∧ some k_ ≠ (v116 : Value).ownBlock ∧ some k_ ≠ (.slice Ao42 t123.length co42 : Value).ownBlock ∧ some k_ ≠ (.slice Ao43 t126.length co43 : Value).ownBlock ∧ some k_ ≠ (v133 : Value).ownBlock ∧ some k_ ≠ (.slice Ao78 t142.length co78 : Value).ownBlock ∧ some k_ ≠ (.slice Ao80 t146.length co80 : Value).ownBlock) (Kd.R_keptB (HO_14.out) hkp (fun k_ hk_ hs_ => (hk_.2.2.1) hs_)) (fun k_ hk_ => ⟨hk_.1.1, hk_.1.2.1, hk_.1.2.2.1, hk_.1.2.2.2.1, hk_.1.2.2.2.2.1, hk_.1.2.2.2.2.2.1, hk_.1.2.2.2.2.2.2⟩)); have n5_ := am_ (Kd.R_mono (ok' := fun k_ => some k_ ≠ (v113 : Value).ownBlock ∧ some k_ ≠ (v116 : Value).ownBlock ∧ some k_ ≠ (.slice Ao42 t123.length co42 : Value).ownBlock ∧ some k_ ≠ (.slice Ao43 t126.length co43 : Value).ownBlock ∧ some k_ ≠ (v130 : Value).ownBlock ∧ some k_ ≠ (.slice Ao78 t142.length co78 : Value).ownBlock ∧ some k_ ≠ (.slice Ao80 t146.length co80 : Value).ownBlock) (Kd.R_keptB (HO_15.out) hkp (fun k_ hk_ hs_ => (hk_.2.2.1) hs_)) (fun k_ hk_ => ⟨hk_.1.1, hk_.1.2.1, hk_.1.2.2.1, hk_.1.2.2.2.1, hk_.1.2.2.2.2.1, hk_.1.2.2.2.2.2.1, hk_.1.2.2.2.2.2.2⟩)); have n6_ := am_ (Kd.R_mono (ok' := fun k_ => some k_ ≠ (.slice Ao75 t138.length co75 : Value).ownBlock) (Kd.R_keptB ((Kd.R_apart' HO_123000.out (Kd.R_typed HO_12.out) (by decide))) hkp (fun k_ hk_ hs_ => (hk_.2) hs_)) (fun k_ hk_ => hk_.1.1.2)); have n7_ := am_ (blk_kept qz11_ hkp (fun hs_ => (fun e_ => (Kd.R_ne HO_12.out BK101.out (by decide)) e_) hs_)); have n8_ := am_ (blk_kept qz74_ hkp (fun hs_ => (fun e_ => (Kd.R_ne HO_12.out BK122.out (by decide)) e_) hs_)); have n9_ := am_ (Kd.R_mono (ok' := fun k_ => some k_ ≠ (.slice Ao36 t119.length co36 : Value).ownBlock) (Kd.R_keptB ((Kd.R_apart' HO140.out (Kd.R_typed HO_12.out) (by decide))) hkp (fun k_ hk_ hs_ => (hk_.2) hs_)) (fun k_ hk_ => hk_.1.1)); have n10_ := am_ (Kd.R_mono (ok' := fun k_ => some k_ ≠ (v113 : Value).ownBlock ∧ some k_ ≠ (v116 : Value).ownBlock ∧ some k_ ≠ (.slice Ao42 t123.length co42 : Value).ownBlock ∧ some k_ ≠ (.slice Ao43 t126.length co43 : Value).ownBlock ∧ some k_ ≠ (v130 : Value).ownBlock ∧ some k_ ≠ (v133 : Value).ownBlock ∧ some k_ ≠ (.slice Ao80 t146.length co80 : Value).ownBlock) (Kd.R_keptB (HO144.out) hkp (fun k_ hk_ hs_ => (hk_.2.2.1) hs_)) (fun k_ hk_ => ⟨hk_.1.1, hk_.1.2.1, hk_.1.2.2.1, hk_.1.2.2.2.1, hk_.1.2.2.2.2.1, hk_.1.2.2.2.2.2.1, hk_.1.2.2.2.2.2.2⟩)); have n11_ := am_ (Kd.R_mono (ok' := fun k_ => some k_ ≠ (v113 : Value).ownBlock ∧ some k_ ≠ (v116 : Value).ownBlock ∧ some k_ ≠ (.slice Ao42 t123.length co42 : Value).ownBlock ∧ some k_ ≠ (.slice Ao43 t126.length co43 : Value).ownBlock ∧ some k_ ≠ (v130 : Value).ownBlock ∧ some k_ ≠ (v133 : Value).ownBlock ∧ some k_ ≠ (.slice Ao78 t142.length co78 : Value).ownBlock) (Kd.R_keptB (HO148.out) hkp (fun k_ hk_ hs_ => (hk_.2.2.1) hs_)) (fun k_ hk_ => ⟨hk_.1.1, hk_.1.2.1, hk_.1.2.2.1, hk_.1.2.2.2.1, hk_.1.2.2.2.2.1, hk_.1.2.2.2.2.2.1, hk_.1.2.2.2.2.2.2⟩)); have n12_ := am_ (hb); clear HO_8; clear HO_9; clear HO_12; clear HO_13; clear HO_14; clear HO_15; clear HO_123000; clear BK101; clear BK122; clear HO140; clear HO144; clear HO148; clear HB; have HO_8 := n0_; have HO_9 := n1_; have HO_12 := n2_; have HO_13 := n3_; have HO_14 := n4_; have HO_15 := n5_; have HO_123000 := n6_; have BK101 := n7_; have BK122 := n8_; have HO140 := n9_; have HO144 := n10_; have HO148 := n11_; have HB := n12_; clear n0_ n1_ n2_ n3_ n4_ n5_ n6_ n7_ n8_ n9_ n10_ n11_ n12_; (try clear hb); (try clear hkp); (try clear hy0)) | ((with_reducible refine gate_callee (f := 20) rfl ?_); refine goesL_ (some 97) rfl rfl Try.func20 (by kernel_rfl) rfl #[.slice Ao43 t126.length co43, .int .i64 t152] rfl qz9_ ?_; (with_reducible refine (laws_markIntS.calls kj20 (fun k_ => some k_ = (.slice Ao43 t126.length co43 : Value).ownBlock) (.slice Ao43 t126.length co43) t126 t152 t154 t155 w _ ?side1 ?side2 A71.out).mono ?_); (case side1 => repeat (first | (with_reducible first | exact HB.out | apply below_alloc | apply pw_below_drewN | apply below_drew1 | refine below_set ?_ GE101.out | refine below_set ?_ GE122.out) | exact HB.out)); (case side2 => exact Kd.R_tight rfl HO_13.out); rintro e w85 ⟨rfl, hy0, hb, hkp⟩; refine ⟨_, rfl, ?_⟩; have n0_ := am_ (Kd.R_mono (ok' := fun k_ => some k_ ≠ (v116 : Value).ownBlock ∧ some k_ ≠ (.slice Ao42 t123.length co42 : Value).ownBlock ∧ some k_ ≠ (.slice Ao43 t126.length co43 : Value).ownBlock ∧ some k_ ≠ (v130 : Value).ownBlock ∧ some k_ ≠ (v133 : Value).ownBlock ∧ some k_ ≠ (.slice Ao78 t142.length co78 : Value).ownBlock ∧ some k_ ≠ (.slice Ao80 t146.length co80 : Value).ownBlock) (Kd.R_keptB (HO_8.out) hkp (fun k_ hk_ hs_ => (hk_.2.2.1) hs_)) (fun k_ hk_ => ⟨hk_.1.1, hk_.1.2.1, hk_.1.2.2.1, hk_.1.2.2.2.1, hk_.1.2.2.2.2.1, hk_.1.2.2.2.2.2.1, hk_.1.2.2.2.2.2.2⟩)); have n1_ := am_ (Kd.R_mono (ok' := fun k_ => some k_ ≠ (v113 : Value).ownBlock ∧ some k_ ≠ (.slice Ao42 t123.length co42 : Value).ownBlock ∧ some k_ ≠ (.slice Ao43 t126.length co43 : Value).ownBlock ∧ some k_ ≠ (v130 : Value).ownBlock ∧ some k_ ≠ (v133 : Value).ownBlock ∧ some k_ ≠ (.slice Ao78 t142.length co78 : Value).ownBlock ∧ some k_ ≠ (.slice Ao80 t146.length co80 : Value).ownBlock) (Kd.R_keptB (HO_9.out) hkp (fun k_ hk_ hs_ => (hk_.2.2.1) hs_)) (fun k_ hk_ => ⟨hk_.1.1, hk_.1.2.1, hk_.1.2.2.1, hk_.1.2.2.2.1, hk_.1.2.2.2.2.1, hk_.1.2.2.2.2.2.1, hk_.1.2.2.2.2.2.2⟩)); have n2_ := am_ (Kd.R_mono (ok' := fun k_ => some k_ ≠ (v113 : Value).ownBlock ∧ some k_ ≠ (v116 : Value).ownBlock ∧ some k_ ≠ (.slice Ao43 t126.length co43 : Value).ownBlock ∧ some k_ ≠ (v130 : Value).ownBlock ∧ some k_ ≠ (v133 : Value).ownBlock ∧ some k_ ≠ (.slice Ao78 t142.length co78 : Value).ownBlock ∧ some k_ ≠ (.slice Ao80 t146.length co80 : Value).ownBlock) (Kd.R_keptB (HO_12.out) hkp (fun k_ hk_ hs_ => (hk_.2.2.1) hs_)) (fun k_ hk_ => ⟨hk_.1.1, hk_.1.2.1, hk_.1.2.2.1, hk_.1.2.2.2.1, hk_.1.2.2.2.2.1, hk_.1.2.2.2.2.2.1, hk_.1.2.2.2.2.2.2⟩)); have n3_ := am_ (Kd.R_reok rfl hy0 (fun k_ e_ => HO_13.out.1 k_ e_)); have n4_ := am_ (Kd.R_mono (ok' := fun k_ => some k_ ≠ (v113 : Value).ownBlock ∧ some k_ ≠ (v116 : Value).ownBlock ∧ some k_ ≠ (.slice Ao42 t123.length co42 : Value).ownBlock ∧ some k_ ≠ (.slice Ao43 t126.length co43 : Value).ownBlock ∧ some k_ ≠ (v133 : Value).ownBlock ∧ some k_ ≠ (.slice Ao78 t142.length co78 : Value).ownBlock ∧ some k_ ≠ (.slice Ao80 t146.length co80 : Value).ownBlock) (Kd.R_keptB (HO_14.out) hkp (fun k_ hk_ hs_ => (hk_.2.2.2.1) hs_)) (fun k_ hk_ => ⟨hk_.1.1, hk_.1.2.1, hk_.1.2.2.1, hk_.1.2.2.2.1, hk_.1.2.2.2.2.1, hk_.1.2.2.2.2.2.1, hk_.1.2.2.2.2.2.2⟩)); have n5_ := am_ (Kd.R_mono (ok' := fun k_ => some k_ ≠ (v113 : Value).ownBlock ∧ some k_ ≠ (v116 : Value).ownBlock ∧ some k_ ≠ (.slice Ao42 t123.length co42 : Value).ownBlock ∧ some k_ ≠ (.slice Ao43 t126.length co43 : Value).ownBlock ∧ some k_ ≠ (v130 : Value).ownBlock ∧ some k_ ≠ (.slice Ao78 t142.length co78 : Value).ownBlock ∧ some k_ ≠ (.slice Ao80 t146.length co80 : Value).ownBlock) (Kd.R_keptB (HO_15.out) hkp (fun k_ hk_ hs_ => (hk_.2.2.2.1) hs_)) (fun k_ hk_ => ⟨hk_.1.1, hk_.1.2.1, hk_.1.2.2.1, hk_.1.2.2.2.1, hk_.1.2.2.2.2.1, hk_.1.2.2.2.2.2.1, hk_.1.2.2.2.2.2.2⟩)); have n6_ := am_ (Kd.R_mono (ok' := fun k_ => some k_ ≠ (.slice Ao75 t138.length co75 : Value).ownBlock) (Kd.R_keptB ((Kd.R_apart' HO_123000.out (Kd.R_typed HO_13.out) (by decide))) hkp (fun k_ hk_ hs_ => (hk_.2) hs_)) (fun k_ hk_ => hk_.1.1)); have n7_ := am_ (blk_kept qz11_ hkp (fun hs_ => (fun e_ => (Kd.R_ne HO_13.out BK101.out (by decide)) e_) hs_)); have n8_ := am_ (blk_kept qz74_ hkp (fun hs_ => (fun e_ => (Kd.R_ne HO_13.out BK122.out (by decide)) e_) hs_)); have n9_ := am_ (Kd.R_mono (ok' := fun k_ => some k_ ≠ (.slice Ao36 t119.length co36 : Value).ownBlock) (Kd.R_keptB ((Kd.R_apart' HO140.out (Kd.R_typed HO_13.out) (by decide))) hkp (fun k_ hk_ hs_ => (hk_.2) hs_)) (fun k_ hk_ => hk_.1.1)); have n10_ := am_ (Kd.R_mono (ok' := fun k_ => some k_ ≠ (v113 : Value).ownBlock ∧ some k_ ≠ (v116 : Value).ownBlock ∧ some k_ ≠ (.slice Ao42 t123.length co42 : Value).ownBlock ∧ some k_ ≠ (.slice Ao43 t126.length co43 : Value).ownBlock ∧ some k_ ≠ (v130 : Value).ownBlock ∧ some k_ ≠ (v133 : Value).ownBlock ∧ some k_ ≠ (.slice Ao80 t146.length co80 : Value).ownBlock) (Kd.R_keptB (HO144.out) hkp (fun k_ hk_ hs_ => (hk_.2.2.2.1) hs_)) (fun k_ hk_ => ⟨hk_.1.1, hk_.1.2.1, hk_.1.2.2.1, hk_.1.2.2.2.1, hk_.1.2.2.2.2.1, hk_.1.2.2.2.2.2.1, hk_.1.2.2.2.2.2.2⟩)); have n11_ := am_ (Kd.R_mono (ok' := fun k_ => some k_ ≠ (v113 : Value).ownBlock ∧ some k_ ≠ (v116 : Value).ownBlock ∧ some k_ ≠ (.slice Ao42 t123.length co42 : Value).ownBlock ∧ some k_ ≠ (.slice Ao43 t126.length co43 : Value).ownBlock ∧ some k_ ≠ (v130 : Value).ownBlock ∧ some k_ ≠ (v133 : Value).ownBlock ∧ some k_ ≠ (.slice Ao78 t142.length co78 : Value).ownBlock) (Kd.R_keptB (HO148.out) hkp (fun k_ hk_ hs_ => (hk_.2.2.2.1) hs_)) (fun k_ hk_ => ⟨hk_.1.1, hk_.1.2.1, hk_.1.2.2.1, hk_.1.2.2.2.1, hk_.1.2.2.2.2.1, hk_.1.2.2.2.2.2.1, hk_.1.2.2.2.2.2.2⟩)); have n12_ := am_ (hb); clear HO_8; clear HO_9; clear HO_12; clear HO_13; clear HO_14; clear HO_15; clear HO_123000; clear BK101; clear BK122; clear HO140; clear HO144; clear HO148; clear HB; have HO_8 := n0_; have HO_9 := n1_; have HO_12 := n2_; have HO_13 := n3_; have HO_14 := n4_; have HO_15 := n5_; have HO_123000 := n6_; have BK101 := n7_; have BK122 := n8_; have HO140 := n9_; have HO144 := n10_; have HO148 := n11_; have HB := n12_; clear n0_ n1_ n2_ n3_ n4_ n5_ n6_ n7_ n8_ n9_ n10_ n11_ n12_; (try clear hb); (try clear hkp); (try clear hy0)))
          (try simp only [Act.put, List.setIfInBounds_toArray, List.set_cons_zero, List.set_cons_succ])
          go_cut [116] (fun vc116 wc => ∃ (kq : Nat) (x116_71 : Bool), vc116 = .bool x116_71 ∧ Aside0 (laws_FnExactWitnessOf.j1 kq l1 l2 t112 t115 t118 t129 t132 x116_71 l0_0 = some r) ∧ Aside0 (kq ≤ kj20) ∧ Aside0 (Kd.R (Kd.int .i64) 3 wc w.heap.size (fun k_ => some k_ ≠ (v116 : Value).ownBlock ∧ some k_ ≠ (v130 : Value).ownBlock ∧ some k_ ≠ (v133 : Value).ownBlock) v113 t112) ∧ Aside0 (Kd.R (Kd.int .i64) 3 wc w.heap.size (fun k_ => some k_ ≠ (v113 : Value).ownBlock ∧ some k_ ≠ (v130 : Value).ownBlock ∧ some k_ ≠ (v133 : Value).ownBlock) v116 t115) ∧ Aside0 (Kd.R (Kd.int .i64) 3 wc w.heap.size (fun k_ => some k_ ≠ (v113 : Value).ownBlock ∧ some k_ ≠ (v116 : Value).ownBlock ∧ some k_ ≠ (v133 : Value).ownBlock) v130 t129) ∧ Aside0 (Kd.R (Kd.int .i64) 3 wc w.heap.size (fun k_ => some k_ ≠ (v113 : Value).ownBlock ∧ some k_ ≠ (v116 : Value).ownBlock ∧ some k_ ≠ (v130 : Value).ownBlock) v133 t132) ∧ Aside0 (Kd.R k115 115 wc w.heap.size (fun _ => True) (.slice Ao36 t119.length co36) t151) ∧ Aside0 (wc.heap[gb101]? = some (.cells #[(.slice A0_0 l0_0.length c0_0)] 58 (0, 0))) ∧ Aside0 (wc.heap[gb122]? = some (.cells #[(.slice Ao36 t119.length co36)] 63 (0, 0))) ∧ Aside0 (Below w.heap.size w wc))
          case first =>
           have H := HC72.out
           clear HC72
           by_cases c86 : t154 < 0
           ·
            rw [if_pos c86] at H
            have c86b0 : decide (t154 < 0) = true := decide_eq_true c86
            clear c86
            (first | rw [c86b0] | (simp only [i64_w, i32_w]; rw [c86b0]) | skip)
            have H' := am_ H
            clear H
            go_wp2
            go_meet
            case rel => exact ⟨_, (true), qz2_, H', ⟨(by have := HJ20.out; first | omega | exact Nat.le_refl _)⟩, ⟨by (with_reducible repeat (first | apply Kd.R_alloc | apply Kd.R_drewN | apply Kd.R_drew)); exact Kd.R_mono HO_8.out (fun _ hk => ⟨hk.1, ⟨hk.2.2.2.1, hk.2.2.2.2.1⟩⟩)⟩, ⟨by (with_reducible repeat (first | apply Kd.R_alloc | apply Kd.R_drewN | apply Kd.R_drew)); exact Kd.R_mono HO_9.out (fun _ hk => ⟨hk.1, ⟨hk.2.2.2.1, hk.2.2.2.2.1⟩⟩)⟩, ⟨by (with_reducible repeat (first | apply Kd.R_alloc | apply Kd.R_drewN | apply Kd.R_drew)); exact Kd.R_mono HO_14.out (fun _ hk => ⟨hk.1, ⟨hk.2.1, hk.2.2.2.2.1⟩⟩)⟩, ⟨by (with_reducible repeat (first | apply Kd.R_alloc | apply Kd.R_drewN | apply Kd.R_drew)); exact Kd.R_mono HO_15.out (fun _ hk => ⟨hk.1, ⟨hk.2.1, hk.2.2.2.2.1⟩⟩)⟩, ⟨(by (with_reducible repeat (first | apply Kd.R_alloc | apply Kd.R_drewN | apply Kd.R_drew)); exact Kd.R_mono HO_123000.out (fun _ hk => trivial))⟩, ⟨qz11_⟩, ⟨qz74_⟩, ⟨qz73_⟩⟩
           ·
            rw [if_neg c86] at H
            have c86b0 : decide (t154 < 0) = false := decide_eq_false c86
            clear c86
            (first | rw [c86b0] | (simp only [i64_w, i32_w]; rw [c86b0]) | skip)
            replace H := Option.bind_eq_some_iff.mp H
            obtain ⟨t156, A870, H⟩ := H
            replace H : (if t156 = true then ((laws_eqIntS.f kj20 t132 t115).bind fun t157 => (if t157 = true then (laws_FnExactWitnessOf.j1 kj20 l1 l2 t112 t115 t118 t129 t132 (t135 != t118) l0_0) else (laws_FnExactWitnessOf.j1 kj20 l1 l2 t112 t115 t118 t129 t132 true l0_0))) else (laws_FnExactWitnessOf.j1 kj20 l1 l2 t112 t115 t118 t129 t132 true l0_0)) = some r := H
            have A87 := am_ A870
            clear A870
            by_cases c88 : t156 = true
            ·
             subst c88
             have H1 : ((laws_eqIntS.f kj20 t132 t115).bind fun t157 => (if t157 = true then (laws_FnExactWitnessOf.j1 kj20 l1 l2 t112 t115 t118 t129 t132 (t135 != t118) l0_0) else (laws_FnExactWitnessOf.j1 kj20 l1 l2 t112 t115 t118 t129 t132 true l0_0))) = some r := by rw [if_pos rfl] at H; exact H
             clear H
             have H := H1
             clear H1
             replace H := Option.bind_eq_some_iff.mp H
             obtain ⟨t157, A890, H⟩ := H
             replace H : (if t157 = true then (laws_FnExactWitnessOf.j1 kj20 l1 l2 t112 t115 t118 t129 t132 (t135 != t118) l0_0) else (laws_FnExactWitnessOf.j1 kj20 l1 l2 t112 t115 t118 t129 t132 true l0_0)) = some r := H
             have A89 := am_ A890
             clear A890
             by_cases c90 : t157 = true
             ·
              subst c90
              have H1 : (laws_FnExactWitnessOf.j1 kj20 l1 l2 t112 t115 t118 t129 t132 (t135 != t118) l0_0) = some r := by rw [if_pos rfl] at H; exact H
              clear H
              have H := H1
              clear H1
              have H' := am_ H
              clear H
              obtain ⟨Ao91, co91, eo91⟩ := Kd.R_slice HO_14.out
              subst eo91
              obtain ⟨Ao92, co92, eo92⟩ := Kd.R_slice HO_8.out
              subst eo92
              go_wp2_with (first | (go_at_call 18; (with_reducible refine (laws_eqIntS.calls kj20 _ _ t129 _ _ t112 true _ ?side1 ?side2 ?side3 ?side4 A87.out).mono ?_); (case side1 => exact qc_ (Kd.R_reads' HO_14.out).2.2); (case side2 => exact (Kd.R_reads' HO_14.out).2.1); (case side3 => exact qc_ (Kd.R_reads' HO_8.out).2.2); (case side4 => exact (Kd.R_reads' HO_8.out).2.1); rintro e w' ⟨rfl, ⟨nd, rfl⟩⟩; obtain ⟨Ao93, co93, eo93⟩ := Kd.R_slice HO_15.out; subst eo93; obtain ⟨Ao94, co94, eo94⟩ := Kd.R_slice HO_9.out; subst eo94) | (go_at_call 18; (with_reducible refine (laws_eqIntS.calls kj20 _ _ t132 _ _ t115 true _ ?side1 ?side2 ?side3 ?side4 A89.out).mono ?_); (case side1 => exact qc_ (Kd.R_reads' HO_15.out).2.2); (case side2 => exact (Kd.R_reads' HO_15.out).2.1); (case side3 => exact qc_ (Kd.R_reads' HO_9.out).2.2); (case side4 => exact (Kd.R_reads' HO_9.out).2.1); rintro e w' ⟨rfl, ⟨nd, rfl⟩⟩))
              go_meet
              case rel => exact ⟨_, ((t135 != t118)), qz2_, H', ⟨(by have := HJ20.out; first | omega | exact Nat.le_refl _)⟩, ⟨by (with_reducible repeat (first | apply Kd.R_alloc | apply Kd.R_drewN | apply Kd.R_drew)); exact Kd.R_mono HO_8.out (fun _ hk => ⟨hk.1, ⟨hk.2.2.2.1, hk.2.2.2.2.1⟩⟩)⟩, ⟨by (with_reducible repeat (first | apply Kd.R_alloc | apply Kd.R_drewN | apply Kd.R_drew)); exact Kd.R_mono HO_9.out (fun _ hk => ⟨hk.1, ⟨hk.2.2.2.1, hk.2.2.2.2.1⟩⟩)⟩, ⟨by (with_reducible repeat (first | apply Kd.R_alloc | apply Kd.R_drewN | apply Kd.R_drew)); exact Kd.R_mono HO_14.out (fun _ hk => ⟨hk.1, ⟨hk.2.1, hk.2.2.2.2.1⟩⟩)⟩, ⟨by (with_reducible repeat (first | apply Kd.R_alloc | apply Kd.R_drewN | apply Kd.R_drew)); exact Kd.R_mono HO_15.out (fun _ hk => ⟨hk.1, ⟨hk.2.1, hk.2.2.2.2.1⟩⟩)⟩, ⟨(by (with_reducible repeat (first | apply Kd.R_alloc | apply Kd.R_drewN | apply Kd.R_drew)); exact Kd.R_mono HO_123000.out (fun _ hk => trivial))⟩, ⟨qz11_⟩, ⟨qz74_⟩, ⟨qz73_⟩⟩
             ·
              replace c90 := Bool.eq_false_iff.mpr c90
              subst c90
              have H1 : (laws_FnExactWitnessOf.j1 kj20 l1 l2 t112 t115 t118 t129 t132 true l0_0) = some r := by rw [if_neg (show ¬ (false = true) by decide)] at H; exact H
              clear H
              have H := H1
              clear H1
              have H' := am_ H
              clear H
              obtain ⟨Ao95, co95, eo95⟩ := Kd.R_slice HO_14.out
              subst eo95
              obtain ⟨Ao96, co96, eo96⟩ := Kd.R_slice HO_8.out
              subst eo96
              go_wp2_with (first | (go_at_call 18; (with_reducible refine (laws_eqIntS.calls kj20 _ _ t129 _ _ t112 true _ ?side1 ?side2 ?side3 ?side4 A87.out).mono ?_); (case side1 => exact qc_ (Kd.R_reads' HO_14.out).2.2); (case side2 => exact (Kd.R_reads' HO_14.out).2.1); (case side3 => exact qc_ (Kd.R_reads' HO_8.out).2.2); (case side4 => exact (Kd.R_reads' HO_8.out).2.1); rintro e w' ⟨rfl, ⟨nd, rfl⟩⟩; obtain ⟨Ao97, co97, eo97⟩ := Kd.R_slice HO_15.out; subst eo97; obtain ⟨Ao98, co98, eo98⟩ := Kd.R_slice HO_9.out; subst eo98) | (go_at_call 18; (with_reducible refine (laws_eqIntS.calls kj20 _ _ t132 _ _ t115 false _ ?side1 ?side2 ?side3 ?side4 A89.out).mono ?_); (case side1 => exact qc_ (Kd.R_reads' HO_15.out).2.2); (case side2 => exact (Kd.R_reads' HO_15.out).2.1); (case side3 => exact qc_ (Kd.R_reads' HO_9.out).2.2); (case side4 => exact (Kd.R_reads' HO_9.out).2.1); rintro e w' ⟨rfl, ⟨nd, rfl⟩⟩))
              go_meet
              case rel => exact ⟨_, (true), qz2_, H', ⟨(by have := HJ20.out; first | omega | exact Nat.le_refl _)⟩, ⟨by (with_reducible repeat (first | apply Kd.R_alloc | apply Kd.R_drewN | apply Kd.R_drew)); exact Kd.R_mono HO_8.out (fun _ hk => ⟨hk.1, ⟨hk.2.2.2.1, hk.2.2.2.2.1⟩⟩)⟩, ⟨by (with_reducible repeat (first | apply Kd.R_alloc | apply Kd.R_drewN | apply Kd.R_drew)); exact Kd.R_mono HO_9.out (fun _ hk => ⟨hk.1, ⟨hk.2.2.2.1, hk.2.2.2.2.1⟩⟩)⟩, ⟨by (with_reducible repeat (first | apply Kd.R_alloc | apply Kd.R_drewN | apply Kd.R_drew)); exact Kd.R_mono HO_14.out (fun _ hk => ⟨hk.1, ⟨hk.2.1, hk.2.2.2.2.1⟩⟩)⟩, ⟨by (with_reducible repeat (first | apply Kd.R_alloc | apply Kd.R_drewN | apply Kd.R_drew)); exact Kd.R_mono HO_15.out (fun _ hk => ⟨hk.1, ⟨hk.2.1, hk.2.2.2.2.1⟩⟩)⟩, ⟨(by (with_reducible repeat (first | apply Kd.R_alloc | apply Kd.R_drewN | apply Kd.R_drew)); exact Kd.R_mono HO_123000.out (fun _ hk => trivial))⟩, ⟨qz11_⟩, ⟨qz74_⟩, ⟨qz73_⟩⟩
            ·
             replace c88 := Bool.eq_false_iff.mpr c88
             subst c88
             have H1 : (laws_FnExactWitnessOf.j1 kj20 l1 l2 t112 t115 t118 t129 t132 true l0_0) = some r := by rw [if_neg (show ¬ (false = true) by decide)] at H; exact H
             clear H
             have H := H1
             clear H1
             have H' := am_ H
             clear H
             obtain ⟨Ao99, co99, eo99⟩ := Kd.R_slice HO_14.out
             subst eo99
             obtain ⟨Ao100, co100, eo100⟩ := Kd.R_slice HO_8.out
             subst eo100
             go_wp2_with (first | (go_at_call 18; (with_reducible refine (laws_eqIntS.calls kj20 _ _ t129 _ _ t112 false _ ?side1 ?side2 ?side3 ?side4 A87.out).mono ?_); (case side1 => exact qc_ (Kd.R_reads' HO_14.out).2.2); (case side2 => exact (Kd.R_reads' HO_14.out).2.1); (case side3 => exact qc_ (Kd.R_reads' HO_8.out).2.2); (case side4 => exact (Kd.R_reads' HO_8.out).2.1); rintro e w' ⟨rfl, ⟨nd, rfl⟩⟩))
             go_meet
             case rel => exact ⟨_, (true), qz2_, H', ⟨(by have := HJ20.out; first | omega | exact Nat.le_refl _)⟩, ⟨by (with_reducible repeat (first | apply Kd.R_alloc | apply Kd.R_drewN | apply Kd.R_drew)); exact Kd.R_mono HO_8.out (fun _ hk => ⟨hk.1, ⟨hk.2.2.2.1, hk.2.2.2.2.1⟩⟩)⟩, ⟨by (with_reducible repeat (first | apply Kd.R_alloc | apply Kd.R_drewN | apply Kd.R_drew)); exact Kd.R_mono HO_9.out (fun _ hk => ⟨hk.1, ⟨hk.2.2.2.1, hk.2.2.2.2.1⟩⟩)⟩, ⟨by (with_reducible repeat (first | apply Kd.R_alloc | apply Kd.R_drewN | apply Kd.R_drew)); exact Kd.R_mono HO_14.out (fun _ hk => ⟨hk.1, ⟨hk.2.1, hk.2.2.2.2.1⟩⟩)⟩, ⟨by (with_reducible repeat (first | apply Kd.R_alloc | apply Kd.R_drewN | apply Kd.R_drew)); exact Kd.R_mono HO_15.out (fun _ hk => ⟨hk.1, ⟨hk.2.1, hk.2.2.2.2.1⟩⟩)⟩, ⟨(by (with_reducible repeat (first | apply Kd.R_alloc | apply Kd.R_drewN | apply Kd.R_drew)); exact Kd.R_mono HO_123000.out (fun _ hk => trivial))⟩, ⟨qz11_⟩, ⟨qz74_⟩, ⟨qz73_⟩⟩
          case rest =>
           clear HC72
           try clear c1
           try clear c2
           try clear p2
           try clear c3
           try clear c4
           try clear c4b0
           try clear c4b1
           try clear c5
           try clear c6
           try clear c6b0
           try clear c6b1
           try clear c8
           try clear c9
           try clear c9b0
           try clear c16
           try clear c18
           try clear c20
           try clear c33
           try clear c35
           try clear c37
           try clear c38
           try clear c39
           try clear c40
           try clear c46
           try clear c48
           try clear c59
           try clear c62
           try clear c65
           try clear c68
           try clear c81
           try clear c86
           try clear c86b0
           try clear c88
           try clear c90
           try clear hcz11_0
           try clear hcz23_0
           try clear hcz25_0
           try clear hcz33_0
           try clear hcz38_0
           try clear hcz41_0
           try clear hcz82_0
           try clear hfz11_0
           try clear hfz23_0
           try clear hfz25_0
           try clear hfz33_0
           try clear hfz38_0
           try clear hfz41_0
           try clear hfz82_0
           try clear p2
           obtain ⟨kq, x116_71, rfl, HA, HJ71, HO_8, HO_9, HO_14, HO_15, HO_123000, BK101, BK122, HB⟩ := hcut
           have hl123000_71 := (Kd.R_reads' HO_123000.out).1
           rw [hl123000_71] at HO_123000
           (try simp only [hl123000_71])
           (try simp only [hl123000_71] at BK101)
           (try simp only [hl123000_71] at BK122)
           (try simp only [hl123000_71] at HO_8)
           (try simp only [hl123000_71] at HO_9)
           (try simp only [hl123000_71] at HO_14)
           (try simp only [hl123000_71] at HO_15)
           cases kq with
           | zero => exact absurd HA.out (by simp [laws_FnExactWitnessOf.j1])
           | succ kj71 =>
            have H := HA.out
            clear HA
            simp only [laws_FnExactWitnessOf.j1] at H
            by_cases c101 : x116_71 = true
            ·
             subst c101
             have H1 : (some false) = some r := by rw [if_pos rfl] at H; exact H
             clear H
             have H := H1
             clear H1
             exact absurd ((Option.some.inj H).trans hr_) (by decide)
            ·
             replace c101 := Bool.eq_false_iff.mpr c101
             subst c101
             have H1 : ((laws_markIntS.f kj71 t129 1).bind fun bt158 => ((laws_markIntS.f kj71 t132 bt158.1).bind fun bt160 => ((laws_heldIntS.f kj71 bt158.2 1).bind fun t162 => (if t162 < 0 then (some false) else ((laws_heldIntS.f kj71 bt160.2 t162).bind fun t163 => (if t163 < 0 then (some false) else (if t163 = bt160.1 then ((laws_toCircuit.f kj71 l0_0).bind fun t164 => ((laws_toIntS.f kj71 l1).bind fun t167 => ((laws_toIntS.f kj71 l2).bind fun t170 => ((impl_WitnessOf.f kj71 t164 t167 t170).bind fun bt173 => ((laws_eqIntS.f kj71 bt173.1 t112).bind fun t180 => (if t180 = true then ((laws_eqIntS.f kj71 bt173.2.1 t115).bind fun t181 => (if t181 = true then (laws_FnExactWitnessOf.j2 kj71 bt158.2 bt160.2 bt160.1 (bt173.2.2 != t118)) else (laws_FnExactWitnessOf.j2 kj71 bt158.2 bt160.2 bt160.1 true))) else (laws_FnExactWitnessOf.j2 kj71 bt158.2 bt160.2 bt160.1 true))))))) else (some false)))))))) = some r := by rw [if_neg (show ¬ (false = true) by decide)] at H; exact H
             clear H
             have H := H1
             clear H1
             replace H := Option.bind_eq_some_iff.mp H
             obtain ⟨⟨t158, t159⟩, A1020, H⟩ := H
             replace H : ((laws_markIntS.f kj71 t132 t158).bind fun bt160 => ((laws_heldIntS.f kj71 t159 1).bind fun t162 => (if t162 < 0 then (some false) else ((laws_heldIntS.f kj71 bt160.2 t162).bind fun t163 => (if t163 < 0 then (some false) else (if t163 = bt160.1 then ((laws_toCircuit.f kj71 l0_0).bind fun t164 => ((laws_toIntS.f kj71 l1).bind fun t167 => ((laws_toIntS.f kj71 l2).bind fun t170 => ((impl_WitnessOf.f kj71 t164 t167 t170).bind fun bt173 => ((laws_eqIntS.f kj71 bt173.1 t112).bind fun t180 => (if t180 = true then ((laws_eqIntS.f kj71 bt173.2.1 t115).bind fun t181 => (if t181 = true then (laws_FnExactWitnessOf.j2 kj71 t159 bt160.2 bt160.1 (bt173.2.2 != t118)) else (laws_FnExactWitnessOf.j2 kj71 t159 bt160.2 bt160.1 true))) else (laws_FnExactWitnessOf.j2 kj71 t159 bt160.2 bt160.1 true))))))) else (some false))))))) = some r := H
             have A102 := am_ A1020
             clear A1020
             replace H := Option.bind_eq_some_iff.mp H
             obtain ⟨⟨t160, t161⟩, A1030, H⟩ := H
             replace H : ((laws_heldIntS.f kj71 t159 1).bind fun t162 => (if t162 < 0 then (some false) else ((laws_heldIntS.f kj71 t161 t162).bind fun t163 => (if t163 < 0 then (some false) else (if t163 = t160 then ((laws_toCircuit.f kj71 l0_0).bind fun t164 => ((laws_toIntS.f kj71 l1).bind fun t167 => ((laws_toIntS.f kj71 l2).bind fun t170 => ((impl_WitnessOf.f kj71 t164 t167 t170).bind fun bt173 => ((laws_eqIntS.f kj71 bt173.1 t112).bind fun t180 => (if t180 = true then ((laws_eqIntS.f kj71 bt173.2.1 t115).bind fun t181 => (if t181 = true then (laws_FnExactWitnessOf.j2 kj71 t159 t161 t160 (bt173.2.2 != t118)) else (laws_FnExactWitnessOf.j2 kj71 t159 t161 t160 true))) else (laws_FnExactWitnessOf.j2 kj71 t159 t161 t160 true))))))) else (some false)))))) = some r := H
             have A103 := am_ A1030
             clear A1030
             replace H := Option.bind_eq_some_iff.mp H
             obtain ⟨t162, A1040, H⟩ := H
             replace H : (if t162 < 0 then (some false) else ((laws_heldIntS.f kj71 t161 t162).bind fun t163 => (if t163 < 0 then (some false) else (if t163 = t160 then ((laws_toCircuit.f kj71 l0_0).bind fun t164 => ((laws_toIntS.f kj71 l1).bind fun t167 => ((laws_toIntS.f kj71 l2).bind fun t170 => ((impl_WitnessOf.f kj71 t164 t167 t170).bind fun bt173 => ((laws_eqIntS.f kj71 bt173.1 t112).bind fun t180 => (if t180 = true then ((laws_eqIntS.f kj71 bt173.2.1 t115).bind fun t181 => (if t181 = true then (laws_FnExactWitnessOf.j2 kj71 t159 t161 t160 (bt173.2.2 != t118)) else (laws_FnExactWitnessOf.j2 kj71 t159 t161 t160 true))) else (laws_FnExactWitnessOf.j2 kj71 t159 t161 t160 true))))))) else (some false))))) = some r := H
             have A104 := am_ A1040
             clear A1040
             by_cases c105 : t162 < 0
             ·
              rw [if_pos c105] at H
              have c105b0 : decide (t162 < 0) = true := decide_eq_true c105
              clear c105
              exact absurd ((Option.some.inj H).trans hr_) (by decide)
             ·
              rw [if_neg c105] at H
              have c105b0 : decide (t162 < 0) = false := decide_eq_false c105
              clear c105
              replace H := Option.bind_eq_some_iff.mp H
              obtain ⟨t163, A1060, H⟩ := H
              replace H : (if t163 < 0 then (some false) else (if t163 = t160 then ((laws_toCircuit.f kj71 l0_0).bind fun t164 => ((laws_toIntS.f kj71 l1).bind fun t167 => ((laws_toIntS.f kj71 l2).bind fun t170 => ((impl_WitnessOf.f kj71 t164 t167 t170).bind fun bt173 => ((laws_eqIntS.f kj71 bt173.1 t112).bind fun t180 => (if t180 = true then ((laws_eqIntS.f kj71 bt173.2.1 t115).bind fun t181 => (if t181 = true then (laws_FnExactWitnessOf.j2 kj71 t159 t161 t160 (bt173.2.2 != t118)) else (laws_FnExactWitnessOf.j2 kj71 t159 t161 t160 true))) else (laws_FnExactWitnessOf.j2 kj71 t159 t161 t160 true))))))) else (some false))) = some r := H
              have A106 := am_ A1060
              clear A1060
              by_cases c107 : t163 < 0
              ·
               rw [if_pos c107] at H
               have c107b0 : decide (t163 < 0) = true := decide_eq_true c107
               clear c107
               exact absurd ((Option.some.inj H).trans hr_) (by decide)
              ·
               rw [if_neg c107] at H
               have c107b0 : decide (t163 < 0) = false := decide_eq_false c107
               clear c107
               by_cases c108 : t163 = t160
               ·
                rw [if_pos c108] at H
                have c108b0 : (t163 == t160) = true := beq_iff_eq.mpr c108
                have c108b1 : (t163 != t160) = false := bne_eq_false_iff_eq.mpr c108
                clear c108
                replace H := Option.bind_eq_some_iff.mp H
                obtain ⟨t164, A1090, H⟩ := H
                replace H : ((laws_toIntS.f kj71 l1).bind fun t167 => ((laws_toIntS.f kj71 l2).bind fun t170 => ((impl_WitnessOf.f kj71 t164 t167 t170).bind fun bt173 => ((laws_eqIntS.f kj71 bt173.1 t112).bind fun t180 => (if t180 = true then ((laws_eqIntS.f kj71 bt173.2.1 t115).bind fun t181 => (if t181 = true then (laws_FnExactWitnessOf.j2 kj71 t159 t161 t160 (bt173.2.2 != t118)) else (laws_FnExactWitnessOf.j2 kj71 t159 t161 t160 true))) else (laws_FnExactWitnessOf.j2 kj71 t159 t161 t160 true)))))) = some r := H
                have A109 := am_ A1090
                clear A1090
                replace H := Option.bind_eq_some_iff.mp H
                obtain ⟨t167, A1100, H⟩ := H
                replace H : ((laws_toIntS.f kj71 l2).bind fun t170 => ((impl_WitnessOf.f kj71 t164 t167 t170).bind fun bt173 => ((laws_eqIntS.f kj71 bt173.1 t112).bind fun t180 => (if t180 = true then ((laws_eqIntS.f kj71 bt173.2.1 t115).bind fun t181 => (if t181 = true then (laws_FnExactWitnessOf.j2 kj71 t159 t161 t160 (bt173.2.2 != t118)) else (laws_FnExactWitnessOf.j2 kj71 t159 t161 t160 true))) else (laws_FnExactWitnessOf.j2 kj71 t159 t161 t160 true))))) = some r := H
                have A110 := am_ A1100
                clear A1100
                replace H := Option.bind_eq_some_iff.mp H
                obtain ⟨t170, A1110, H⟩ := H
                replace H : ((impl_WitnessOf.f kj71 t164 t167 t170).bind fun bt173 => ((laws_eqIntS.f kj71 bt173.1 t112).bind fun t180 => (if t180 = true then ((laws_eqIntS.f kj71 bt173.2.1 t115).bind fun t181 => (if t181 = true then (laws_FnExactWitnessOf.j2 kj71 t159 t161 t160 (bt173.2.2 != t118)) else (laws_FnExactWitnessOf.j2 kj71 t159 t161 t160 true))) else (laws_FnExactWitnessOf.j2 kj71 t159 t161 t160 true)))) = some r := H
                have A111 := am_ A1110
                clear A1110
                replace H := Option.bind_eq_some_iff.mp H
                obtain ⟨⟨t173, t176, t179⟩, A1120, H⟩ := H
                replace H : ((laws_eqIntS.f kj71 t173 t112).bind fun t180 => (if t180 = true then ((laws_eqIntS.f kj71 t176 t115).bind fun t181 => (if t181 = true then (laws_FnExactWitnessOf.j2 kj71 t159 t161 t160 (t179 != t118)) else (laws_FnExactWitnessOf.j2 kj71 t159 t161 t160 true))) else (laws_FnExactWitnessOf.j2 kj71 t159 t161 t160 true))) = some r := H
                have A112 := am_ A1120
                clear A1120
                have HC113 := am_ H
                clear H
                obtain ⟨Ao114, co114, eo114⟩ := Kd.R_slice HO_14.out
                subst eo114
                go_upto_region 41 with (first | ((with_reducible refine gate_callee (f := 20) rfl ?_); refine goesL_ (some 119) rfl rfl Try.func20 (by kernel_rfl) rfl #[.slice Ao114 t129.length co114, .int .i64 1] rfl qz9_ ?_; (with_reducible refine (laws_markIntS.calls kj71 (fun k_ => some k_ = (.slice Ao114 t129.length co114 : Value).ownBlock) (.slice Ao114 t129.length co114) t129 1 t158 t159 w _ ?side1 ?side2 A102.out).mono ?_); (case side1 => repeat (first | (with_reducible first | exact HB.out | apply below_alloc | apply pw_below_drewN | apply below_drew1 | refine below_set ?_ GE101.out | refine below_set ?_ GE122.out) | exact HB.out)); (case side2 => exact Kd.R_tight rfl HO_14.out); rintro e w115 ⟨rfl, hy0, hb, hkp⟩; refine ⟨_, rfl, ?_⟩; have n0_ := am_ (Kd.R_mono (ok' := fun k_ => some k_ ≠ (v116 : Value).ownBlock ∧ some k_ ≠ (.slice Ao114 t129.length co114 : Value).ownBlock ∧ some k_ ≠ (v133 : Value).ownBlock) (Kd.R_keptB (HO_8.out) hkp (fun k_ hk_ hs_ => (hk_.2.1) hs_)) (fun k_ hk_ => ⟨hk_.1.1, hk_.1.2.1, hk_.1.2.2⟩)); have n1_ := am_ (Kd.R_mono (ok' := fun k_ => some k_ ≠ (v113 : Value).ownBlock ∧ some k_ ≠ (.slice Ao114 t129.length co114 : Value).ownBlock ∧ some k_ ≠ (v133 : Value).ownBlock) (Kd.R_keptB (HO_9.out) hkp (fun k_ hk_ hs_ => (hk_.2.1) hs_)) (fun k_ hk_ => ⟨hk_.1.1, hk_.1.2.1, hk_.1.2.2⟩)); have n2_ := am_ (Kd.R_reok rfl hy0 (fun k_ e_ => HO_14.out.1 k_ e_)); have n3_ := am_ (Kd.R_mono (ok' := fun k_ => some k_ ≠ (v113 : Value).ownBlock ∧ some k_ ≠ (v116 : Value).ownBlock ∧ some k_ ≠ (.slice Ao114 t129.length co114 : Value).ownBlock) (Kd.R_keptB (HO_15.out) hkp (fun k_ hk_ hs_ => (hk_.2.2) hs_)) (fun k_ hk_ => ⟨hk_.1.1, hk_.1.2.1, hk_.1.2.2⟩)); have n4_ := am_ (Kd.R_mono (ok' := fun k_ => True) (Kd.R_keptB ((Kd.R_apart' HO_123000.out (Kd.R_typed HO_14.out) (by decide))) hkp (fun k_ hk_ hs_ => (hk_.2) hs_)) (fun k_ hk_ => trivial)); have n5_ := am_ (blk_kept qz11_ hkp (fun hs_ => (fun e_ => (Kd.R_ne HO_14.out BK101.out (by decide)) e_) hs_)); have n6_ := am_ (blk_kept qz74_ hkp (fun hs_ => (fun e_ => (Kd.R_ne HO_14.out BK122.out (by decide)) e_) hs_)); have n7_ := am_ (hb); clear HO_8; clear HO_9; clear HO_14; clear HO_15; clear HO_123000; clear BK101; clear BK122; clear HB; have HO_8 := n0_; have HO_9 := n1_; have HO_14 := n2_; have HO_15 := n3_; have HO_123000 := n4_; have BK101 := n5_; have BK122 := n6_; have HB := n7_; clear n0_ n1_ n2_ n3_ n4_ n5_ n6_ n7_; (try clear hb); (try clear hkp); (try clear hy0); obtain ⟨Ao116, co116, eo116⟩ := Kd.R_slice HO_15.out; subst eo116) | ((with_reducible refine gate_callee (f := 20) rfl ?_); refine goesL_ (some 122) rfl rfl Try.func20 (by kernel_rfl) rfl #[.slice Ao116 t132.length co116, .int .i64 t158] rfl qz9_ ?_; (with_reducible refine (laws_markIntS.calls kj71 (fun k_ => some k_ = (.slice Ao116 t132.length co116 : Value).ownBlock) (.slice Ao116 t132.length co116) t132 t158 t160 t161 w _ ?side1 ?side2 A103.out).mono ?_); (case side1 => repeat (first | (with_reducible first | exact HB.out | apply below_alloc | apply pw_below_drewN | apply below_drew1 | refine below_set ?_ GE101.out | refine below_set ?_ GE122.out) | exact HB.out)); (case side2 => exact Kd.R_tight rfl HO_15.out); rintro e w117 ⟨rfl, hy0, hb, hkp⟩; refine ⟨_, rfl, ?_⟩; have n0_ := am_ (Kd.R_mono (ok' := fun k_ => some k_ ≠ (v116 : Value).ownBlock ∧ some k_ ≠ (.slice Ao114 t129.length co114 : Value).ownBlock ∧ some k_ ≠ (.slice Ao116 t132.length co116 : Value).ownBlock) (Kd.R_keptB (HO_8.out) hkp (fun k_ hk_ hs_ => (hk_.2.2) hs_)) (fun k_ hk_ => ⟨hk_.1.1, hk_.1.2.1, hk_.1.2.2⟩)); have n1_ := am_ (Kd.R_mono (ok' := fun k_ => some k_ ≠ (v113 : Value).ownBlock ∧ some k_ ≠ (.slice Ao114 t129.length co114 : Value).ownBlock ∧ some k_ ≠ (.slice Ao116 t132.length co116 : Value).ownBlock) (Kd.R_keptB (HO_9.out) hkp (fun k_ hk_ hs_ => (hk_.2.2) hs_)) (fun k_ hk_ => ⟨hk_.1.1, hk_.1.2.1, hk_.1.2.2⟩)); have n2_ := am_ (Kd.R_mono (ok' := fun k_ => some k_ ≠ (v113 : Value).ownBlock ∧ some k_ ≠ (v116 : Value).ownBlock ∧ some k_ ≠ (.slice Ao116 t132.length co116 : Value).ownBlock) (Kd.R_keptB (HO_14.out) hkp (fun k_ hk_ hs_ => (hk_.2.2) hs_)) (fun k_ hk_ => ⟨hk_.1.1, hk_.1.2.1, hk_.1.2.2⟩)); have n3_ := am_ (Kd.R_reok rfl hy0 (fun k_ e_ => HO_15.out.1 k_ e_)); have n4_ := am_ (Kd.R_mono (ok' := fun k_ => True) (Kd.R_keptB ((Kd.R_apart' HO_123000.out (Kd.R_typed HO_15.out) (by decide))) hkp (fun k_ hk_ hs_ => (hk_.2) hs_)) (fun k_ hk_ => trivial)); have n5_ := am_ (blk_kept qz11_ hkp (fun hs_ => (fun e_ => (Kd.R_ne HO_15.out BK101.out (by decide)) e_) hs_)); have n6_ := am_ (blk_kept qz74_ hkp (fun hs_ => (fun e_ => (Kd.R_ne HO_15.out BK122.out (by decide)) e_) hs_)); have n7_ := am_ (hb); clear HO_8; clear HO_9; clear HO_14; clear HO_15; clear HO_123000; clear BK101; clear BK122; clear HB; have HO_8 := n0_; have HO_9 := n1_; have HO_14 := n2_; have HO_15 := n3_; have HO_123000 := n4_; have BK101 := n5_; have BK122 := n6_; have HB := n7_; clear n0_ n1_ n2_ n3_ n4_ n5_ n6_ n7_; (try clear hb); (try clear hkp); (try clear hy0)) | ((with_reducible refine gate_callee (f := 21) rfl ?_); refine goesL_ (some 125) rfl rfl Try.func21 (by kernel_rfl) rfl #[.slice Ao114 t159.length co114, .int .i64 1] rfl (by (try simp only [List.map_toArray, List.map_cons, List.map_nil]); first | done | (rw [show t159.length = t129.length from (Kd.R_reads' HO_14.out).1.symm] <;> rfl) | rfl | (simp only [List.length_drop, List.length_take]; rfl)) ?_; (with_reducible refine (laws_heldIntS.calls kj71 _ _ t159 1 t162 _ ?side1 ?side2 A104.out).mono ?_); (case side1 => exact qc_ (Kd.R_reads' HO_14.out).2.2); (case side2 => rw [show t159.length = t129.length from (Kd.R_reads' HO_14.out).1.symm]; exact (Kd.R_reads' HO_14.out).2.1); rintro e w' ⟨rfl, ⟨nd, rfl⟩⟩; refine ⟨_, rfl, ?_⟩) | ((with_reducible refine gate_callee (f := 21) rfl ?_); refine goesL_ (some 130) rfl rfl Try.func21 (by kernel_rfl) rfl #[.slice Ao116 t161.length co116, .int .i64 t162] rfl (by (try simp only [List.map_toArray, List.map_cons, List.map_nil]); first | done | (rw [show t161.length = t132.length from (Kd.R_reads' HO_15.out).1.symm] <;> rfl) | rfl | (simp only [List.length_drop, List.length_take]; rfl)) ?_; (with_reducible refine (laws_heldIntS.calls kj71 _ _ t161 t162 t163 _ ?side1 ?side2 A106.out).mono ?_); (case side1 => exact qc_ (Kd.R_reads' HO_15.out).2.2); (case side2 => rw [show t161.length = t132.length from (Kd.R_reads' HO_15.out).1.symm]; exact (Kd.R_reads' HO_15.out).2.1); rintro e w' ⟨rfl, ⟨nd, rfl⟩⟩; refine ⟨_, rfl, ?_⟩; have hnb118 := NB101_122.out; have hnc118 := NB122_101.out; have hcz119_0 : w117.cell? ⟨gb101, 0, none⟩ = some (.slice A0_0 l0_0.length c0_0) := (blk_cell BK101.out 0).trans rfl; have hfz119_0 := blk_frozen BK101.out 0) | ((with_reducible refine gate_callee (f := 35) rfl ?_); refine goesL_ (some 138) rfl rfl Try.func35 (by kernel_rfl) rfl #[.agg #[.slice A0_0 l0_0.length c0_0]] rfl qz9_ ?_; (with_reducible refine (laws_toCircuit.calls kj71 _ _ l0_0 t164 _ ?side1 ?side2 A109.out).mono ?_); (case side1 => repeat (first | exact (Kd.C_below HR0_0.out qz73_) | (with_reducible refine Kd.C_alloc ?_ _) | (with_reducible refine Kd.C_drewN ?_ _) | (with_reducible refine Kd.C_drew ?_))); (case side2 => exact HC0_0.out); rintro e w120 ⟨v165, rfl, ho0, hb⟩; refine ⟨_, rfl, ?_⟩; have n0_ := am_ (Kd.R_below qz61_ hb); have n1_ := am_ (Kd.R_below qz75_ hb); have n2_ := am_ (Kd.R_below qz78_ hb); have n3_ := am_ (Kd.R_below qz79_ hb); have n4_ := am_ (Kd.R_elder' qz80_ (Kd.R_base ho0) hb); have n5_ := am_ (Kd.R_lower (Kd.R_new' ho0 (Kd.R_lt qz80_)) (below_size qz73_)); have n6_ := am_ (blk_below (g := gb101) (o := .cells #[.slice A0_0 l0_0.length c0_0] 58 (0, 0)) qz11_ hb); have n7_ := am_ (blk_below (g := gb122) (o := .cells #[.slice Ao36 t151.length co36] 63 (0, 0)) qz74_ hb); have n8_ := am_ (below_step qz73_ hb); clear HO_8; clear HO_9; clear HO_14; clear HO_15; clear HO_123000; clear BK101; clear BK122; clear HB; have HO_8 := n0_; have HO_9 := n1_; have HO_14 := n2_; have HO_15 := n3_; have HO_123000 := n4_; have HO166 := n5_; have BK101 := n6_; have BK122 := n7_; have HB := n8_; clear n0_ n1_ n2_ n3_ n4_ n5_ n6_ n7_ n8_; (try clear hb); (try clear hb2); (try clear hk); (try clear hi); (try clear ho0)) | ((with_reducible refine gate_callee (f := 16) rfl ?_); refine goesL_ (some 140) rfl rfl Try.func16 (by kernel_rfl) rfl #[.slice A1 l1.length c1] rfl qz9_ ?_; (with_reducible refine (laws_toIntS.calls kj71 _ _ l1 t167 _ ?side1 ?side2 A110.out).mono ?_); (case side1 => exact qc_ (Kd.C_below HR1.out HB.out)); (case side2 => exact HC1.out); rintro e w121 ⟨v168, rfl, ho0, hb⟩; refine ⟨_, rfl, ?_⟩; have n0_ := am_ (Kd.R_elder' qz61_ (Kd.R_base ho0) hb); have n1_ := am_ (Kd.R_elder' qz75_ (Kd.R_base ho0) hb); have n2_ := am_ (Kd.R_elder' qz78_ (Kd.R_base ho0) hb); have n3_ := am_ (Kd.R_elder' qz79_ (Kd.R_base ho0) hb); have n4_ := am_ (Kd.R_below qz80_ hb); have n5_ := am_ (Kd.R_below (by (with_reducible repeat (first | apply Kd.R_alloc | apply Kd.R_drewN | apply Kd.R_drew)); exact HO166.out) hb); have n6_ := am_ (Kd.R_lower (Kd.R_new' (Kd.R_new' (Kd.R_new' (Kd.R_new' ho0 (Kd.R_lt qz61_)) (Kd.R_lt qz75_)) (Kd.R_lt qz78_)) (Kd.R_lt qz79_)) (below_size qz73_)); have n7_ := am_ (blk_below (g := gb101) (o := .cells #[.slice A0_0 l0_0.length c0_0] 58 (0, 0)) qz11_ hb); have n8_ := am_ (blk_below (g := gb122) (o := .cells #[.slice Ao36 t151.length co36] 63 (0, 0)) qz74_ hb); have n9_ := am_ (below_step qz73_ hb); clear HO_8; clear HO_9; clear HO_14; clear HO_15; clear HO_123000; clear HO166; clear BK101; clear BK122; clear HB; have HO_8 := n0_; have HO_9 := n1_; have HO_14 := n2_; have HO_15 := n3_; have HO_123000 := n4_; have HO166 := n5_; have HO169 := n6_; have BK101 := n7_; have BK122 := n8_; have HB := n9_; clear n0_ n1_ n2_ n3_ n4_ n5_ n6_ n7_ n8_ n9_; (try clear hb); (try clear hb2); (try clear hk); (try clear hi); (try clear ho0)) | ((with_reducible refine gate_callee (f := 16) rfl ?_); refine goesL_ (some 142) rfl rfl Try.func16 (by kernel_rfl) rfl #[.slice A2 l2.length c2] rfl qz9_ ?_; (with_reducible refine (laws_toIntS.calls kj71 _ _ l2 t170 _ ?side1 ?side2 A111.out).mono ?_); (case side1 => exact qc_ (Kd.C_below HR2.out HB.out)); (case side2 => exact HC2.out); rintro e w122 ⟨v171, rfl, ho0, hb⟩; refine ⟨_, rfl, ?_⟩; have n0_ := am_ (Kd.R_elder' qz61_ (Kd.R_base ho0) hb); have n1_ := am_ (Kd.R_elder' qz75_ (Kd.R_base ho0) hb); have n2_ := am_ (Kd.R_elder' qz78_ (Kd.R_base ho0) hb); have n3_ := am_ (Kd.R_elder' qz79_ (Kd.R_base ho0) hb); have n4_ := am_ (Kd.R_below qz80_ hb); have n5_ := am_ (Kd.R_below (by (with_reducible repeat (first | apply Kd.R_alloc | apply Kd.R_drewN | apply Kd.R_drew)); exact HO166.out) hb); have n6_ := am_ (Kd.R_elder' (by (with_reducible repeat (first | apply Kd.R_alloc | apply Kd.R_drewN | apply Kd.R_drew)); exact HO169.out) (Kd.R_base ho0) hb); have n7_ := am_ (Kd.R_lower (Kd.R_new' (Kd.R_new' (Kd.R_new' (Kd.R_new' (Kd.R_new' ho0 (Kd.R_lt qz61_)) (Kd.R_lt qz75_)) (Kd.R_lt qz78_)) (Kd.R_lt qz79_)) (Kd.R_lt (by (with_reducible repeat (first | apply Kd.R_alloc | apply Kd.R_drewN | apply Kd.R_drew)); exact HO169.out))) (below_size qz73_)); have n8_ := am_ (blk_below (g := gb101) (o := .cells #[.slice A0_0 l0_0.length c0_0] 58 (0, 0)) qz11_ hb); have n9_ := am_ (blk_below (g := gb122) (o := .cells #[.slice Ao36 t151.length co36] 63 (0, 0)) qz74_ hb); have n10_ := am_ (below_step qz73_ hb); clear HO_8; clear HO_9; clear HO_14; clear HO_15; clear HO_123000; clear HO166; clear HO169; clear BK101; clear BK122; clear HB; have HO_8 := n0_; have HO_9 := n1_; have HO_14 := n2_; have HO_15 := n3_; have HO_123000 := n4_; have HO166 := n5_; have HO169 := n6_; have HO172 := n7_; have BK101 := n8_; have BK122 := n9_; have HB := n10_; clear n0_ n1_ n2_ n3_ n4_ n5_ n6_ n7_ n8_ n9_ n10_; (try clear hb); (try clear hb2); (try clear hk); (try clear hi); (try clear ho0); obtain ⟨Ao123, co123, eo123⟩ := Kd.R_slice HO166.out; subst eo123; obtain ⟨Ao124, co124, eo124⟩ := Kd.R_slice HO169.out; subst eo124; obtain ⟨Ao125, co125, eo125⟩ := Kd.R_slice HO172.out; subst eo125) | ((with_reducible refine gate_callee (f := 40) rfl ?_); refine goesL_ (some 143) rfl rfl Try.func40 (by kernel_rfl) rfl #[.agg #[.slice Ao123 t164.length co123], .slice Ao124 t167.length co124, .slice Ao125 t170.length co125] rfl qz9_ ?_; (with_reducible refine (impl_WitnessOf.calls kj71 _ _ t164 _ _ t167 _ _ t170 t173 t176 t179 _ ?side1 ?side2 ?side3 ?side4 ?side5 ?side6 A112.out).mono ?_); (case side1 => exact qc_ (Kd.R_reads' HO166.out).2.2); (case side2 => exact (Kd.R_reads' HO166.out).2.1); (case side3 => exact qc_ (Kd.R_reads' HO169.out).2.2); (case side4 => exact (Kd.R_reads' HO169.out).2.1); (case side5 => exact qc_ (Kd.R_reads' HO172.out).2.2); (case side6 => exact (Kd.R_reads' HO172.out).2.1); rintro e w126 ⟨v174, v177, rfl, ho0, ho1, hb⟩; refine ⟨_, rfl, ?_⟩; have n0_ := am_ (Kd.R_mono (Kd.R_told (Kd.R_told (Kd.R_old qz61_ hb) (Kd.R_base ho0)) (Kd.R_base ho1)) (fun _ h_ => h_.1)); have n1_ := am_ (Kd.R_mono (Kd.R_told (Kd.R_told (Kd.R_old qz75_ hb) (Kd.R_base ho0)) (Kd.R_base ho1)) (fun _ h_ => h_.1)); have n2_ := am_ (Kd.R_mono (Kd.R_told (Kd.R_told (Kd.R_old qz78_ hb) (Kd.R_base ho0)) (Kd.R_base ho1)) (fun _ h_ => h_.1)); have n3_ := am_ (Kd.R_mono (Kd.R_told (Kd.R_told (Kd.R_old qz79_ hb) (Kd.R_base ho0)) (Kd.R_base ho1)) (fun _ h_ => h_.1)); have n4_ := am_ (Kd.R_below qz80_ hb); have n5_ := am_ (Kd.R_below (by (with_reducible repeat (first | apply Kd.R_alloc | apply Kd.R_drewN | apply Kd.R_drew)); exact HO166.out) hb); have n6_ := am_ (Kd.R_mono (Kd.R_told (Kd.R_told (Kd.R_old (by (with_reducible repeat (first | apply Kd.R_alloc | apply Kd.R_drewN | apply Kd.R_drew)); exact HO169.out) hb) (Kd.R_base ho0)) (Kd.R_base ho1)) (fun _ h_ => h_.1)); have n7_ := am_ (Kd.R_mono (Kd.R_told (Kd.R_told (Kd.R_old (by (with_reducible repeat (first | apply Kd.R_alloc | apply Kd.R_drewN | apply Kd.R_drew)); exact HO172.out) hb) (Kd.R_base ho0)) (Kd.R_base ho1)) (fun _ h_ => h_.1)); have n8_ := am_ (Kd.R_lower (Kd.R_new' (Kd.R_new' (Kd.R_new' (Kd.R_new' (Kd.R_new' (Kd.R_new' ho0 (Kd.R_lt qz61_)) (Kd.R_lt qz75_)) (Kd.R_lt qz78_)) (Kd.R_lt qz79_)) (Kd.R_lt (by (with_reducible repeat (first | apply Kd.R_alloc | apply Kd.R_drewN | apply Kd.R_drew)); exact HO169.out))) (Kd.R_lt (by (with_reducible repeat (first | apply Kd.R_alloc | apply Kd.R_drewN | apply Kd.R_drew)); exact HO172.out))) (below_size qz73_)); have n9_ := am_ (Kd.R_lower (Kd.R_new' (Kd.R_new' (Kd.R_new' (Kd.R_new' (Kd.R_new' (Kd.R_new' ho1 (Kd.R_lt qz61_)) (Kd.R_lt qz75_)) (Kd.R_lt qz78_)) (Kd.R_lt qz79_)) (Kd.R_lt (by (with_reducible repeat (first | apply Kd.R_alloc | apply Kd.R_drewN | apply Kd.R_drew)); exact HO169.out))) (Kd.R_lt (by (with_reducible repeat (first | apply Kd.R_alloc | apply Kd.R_drewN | apply Kd.R_drew)); exact HO172.out))) (below_size qz73_)); have n10_ := am_ (blk_below (g := gb101) (o := .cells #[.slice A0_0 l0_0.length c0_0] 58 (0, 0)) qz11_ hb); have n11_ := am_ (blk_below (g := gb122) (o := .cells #[.slice Ao36 t151.length co36] 63 (0, 0)) qz74_ hb); have n12_ := am_ (below_step qz73_ hb); clear HO_8; clear HO_9; clear HO_14; clear HO_15; clear HO_123000; clear HO166; clear HO169; clear HO172; clear BK101; clear BK122; clear HB; have HO_8 := n0_; have HO_9 := n1_; have HO_14 := n2_; have HO_15 := n3_; have HO_123000 := n4_; have HO166 := n5_; have HO169 := n6_; have HO172 := n7_; have HO175 := n8_; have HO178 := n9_; have BK101 := n10_; have BK122 := n11_; have HB := n12_; clear n0_ n1_ n2_ n3_ n4_ n5_ n6_ n7_ n8_ n9_ n10_ n11_ n12_; (try clear hb); (try clear hb2); (try clear hk); (try clear hi); (try clear ho0); (try clear ho1)))
                (try simp only [Act.put, List.setIfInBounds_toArray, List.set_cons_zero, List.set_cons_succ])
                go_cut [161] (fun v161 wc => ∃ (kq : Nat) (x161_112 : Bool), v161 = .bool x161_112 ∧ Aside0 (laws_FnExactWitnessOf.j2 kq t159 t161 t160 x161_112 = some r) ∧ Aside0 (kq ≤ kj71) ∧ Aside0 (Kd.R (Kd.int .i64) 3 wc w.heap.size (fun k_ => some k_ ≠ ((.slice Ao116 t132.length co116) : Value).ownBlock) (.slice Ao114 t129.length co114) t159) ∧ Aside0 (Kd.R (Kd.int .i64) 3 wc w.heap.size (fun k_ => some k_ ≠ ((.slice Ao114 t129.length co114) : Value).ownBlock) (.slice Ao116 t132.length co116) t161) ∧ Aside0 (Kd.R k115 115 wc w.heap.size (fun _ => True) (.slice Ao36 t151.length co36) t151) ∧ Aside0 (wc.heap[gb101]? = some (.cells #[(.slice A0_0 l0_0.length c0_0)] 58 (0, 0))) ∧ Aside0 (wc.heap[gb122]? = some (.cells #[(.slice Ao36 t151.length co36)] 63 (0, 0))) ∧ Aside0 (Below w.heap.size w wc))
                case first =>
                 have H := HC113.out
                 clear HC113
                 replace H := Option.bind_eq_some_iff.mp H
                 obtain ⟨t180, A1270, H⟩ := H
                 replace H : (if t180 = true then ((laws_eqIntS.f kj71 t176 t115).bind fun t181 => (if t181 = true then (laws_FnExactWitnessOf.j2 kj71 t159 t161 t160 (t179 != t118)) else (laws_FnExactWitnessOf.j2 kj71 t159 t161 t160 true))) else (laws_FnExactWitnessOf.j2 kj71 t159 t161 t160 true)) = some r := H
                 have A127 := am_ A1270
                 clear A1270
                 by_cases c128 : t180 = true
                 ·
                  subst c128
                  have H1 : ((laws_eqIntS.f kj71 t176 t115).bind fun t181 => (if t181 = true then (laws_FnExactWitnessOf.j2 kj71 t159 t161 t160 (t179 != t118)) else (laws_FnExactWitnessOf.j2 kj71 t159 t161 t160 true))) = some r := by rw [if_pos rfl] at H; exact H
                  clear H
                  have H := H1
                  clear H1
                  replace H := Option.bind_eq_some_iff.mp H
                  obtain ⟨t181, A1290, H⟩ := H
                  replace H : (if t181 = true then (laws_FnExactWitnessOf.j2 kj71 t159 t161 t160 (t179 != t118)) else (laws_FnExactWitnessOf.j2 kj71 t159 t161 t160 true)) = some r := H
                  have A129 := am_ A1290
                  clear A1290
                  by_cases c130 : t181 = true
                  ·
                   subst c130
                   have H1 : (laws_FnExactWitnessOf.j2 kj71 t159 t161 t160 (t179 != t118)) = some r := by rw [if_pos rfl] at H; exact H
                   clear H
                   have H := H1
                   clear H1
                   have H' := am_ H
                   clear H
                   obtain ⟨Ao131, co131, eo131⟩ := Kd.R_slice HO175.out
                   subst eo131
                   obtain ⟨Ao132, co132, eo132⟩ := Kd.R_slice HO_8.out
                   subst eo132
                   go_wp2_with (first | ((with_reducible refine gate_callee (f := 18) rfl ?_); refine goesL_ (some 149) rfl rfl Try.func18 (by kernel_rfl) rfl #[.slice Ao131 t173.length co131, .slice Ao132 t112.length co132] rfl qz9_ ?_; (with_reducible refine (laws_eqIntS.calls kj71 _ _ t173 _ _ t112 true _ ?side1 ?side2 ?side3 ?side4 A127.out).mono ?_); (case side1 => exact qc_ (Kd.R_reads' HO175.out).2.2); (case side2 => exact (Kd.R_reads' HO175.out).2.1); (case side3 => exact qc_ (Kd.R_reads' HO_8.out).2.2); (case side4 => exact (Kd.R_reads' HO_8.out).2.1); rintro e w' ⟨rfl, ⟨nd, rfl⟩⟩; refine ⟨_, rfl, ?_⟩; obtain ⟨Ao133, co133, eo133⟩ := Kd.R_slice HO178.out; subst eo133; obtain ⟨Ao134, co134, eo134⟩ := Kd.R_slice HO_9.out; subst eo134) | (go_at_call 18; (with_reducible refine (laws_eqIntS.calls kj71 _ _ t176 _ _ t115 true _ ?side1 ?side2 ?side3 ?side4 A129.out).mono ?_); (case side1 => exact qc_ (Kd.R_reads' HO178.out).2.2); (case side2 => exact (Kd.R_reads' HO178.out).2.1); (case side3 => exact qc_ (Kd.R_reads' HO_9.out).2.2); (case side4 => exact (Kd.R_reads' HO_9.out).2.1); rintro e w' ⟨rfl, ⟨nd, rfl⟩⟩))
                   go_meet
                   case rel => exact ⟨_, ((t179 != t118)), qz2_, H', ⟨(by have := HJ20.out; have := HJ71.out; first | omega | exact Nat.le_refl _)⟩, ⟨(by (try simp only [hl123000_71]); (with_reducible repeat (first | apply Kd.R_alloc | apply Kd.R_drewN | apply Kd.R_drew)); exact Kd.R_mono HO_14.out (fun _ hk => hk.1.1.1.1.2.2))⟩, ⟨(by (try simp only [hl123000_71]); (with_reducible repeat (first | apply Kd.R_alloc | apply Kd.R_drewN | apply Kd.R_drew)); exact Kd.R_mono HO_15.out (fun _ hk => hk.1.1.1.1.2.2))⟩, ⟨(by (try simp only [hl123000_71]); (with_reducible repeat (first | apply Kd.R_alloc | apply Kd.R_drewN | apply Kd.R_drew)); exact Kd.R_mono HO_123000.out (fun _ hk => trivial))⟩, ⟨(by (try simp only [hl123000_71]); (with_reducible repeat (first | refine blk_drewN ?_ _ | refine blk_drew ?_ | refine blk_alloc ?_ _)); exact BK101.out)⟩, ⟨(by (try simp only [hl123000_71]); (with_reducible repeat (first | refine blk_drewN ?_ _ | refine blk_drew ?_ | refine blk_alloc ?_ _)); exact BK122.out)⟩, ⟨qz73_⟩⟩
                  ·
                   replace c130 := Bool.eq_false_iff.mpr c130
                   subst c130
                   have H1 : (laws_FnExactWitnessOf.j2 kj71 t159 t161 t160 true) = some r := by rw [if_neg (show ¬ (false = true) by decide)] at H; exact H
                   clear H
                   have H := H1
                   clear H1
                   have H' := am_ H
                   clear H
                   obtain ⟨Ao135, co135, eo135⟩ := Kd.R_slice HO175.out
                   subst eo135
                   obtain ⟨Ao136, co136, eo136⟩ := Kd.R_slice HO_8.out
                   subst eo136
                   go_wp2_with (first | ((with_reducible refine gate_callee (f := 18) rfl ?_); refine goesL_ (some 149) rfl rfl Try.func18 (by kernel_rfl) rfl #[.slice Ao135 t173.length co135, .slice Ao136 t112.length co136] rfl qz9_ ?_; (with_reducible refine (laws_eqIntS.calls kj71 _ _ t173 _ _ t112 true _ ?side1 ?side2 ?side3 ?side4 A127.out).mono ?_); (case side1 => exact qc_ (Kd.R_reads' HO175.out).2.2); (case side2 => exact (Kd.R_reads' HO175.out).2.1); (case side3 => exact qc_ (Kd.R_reads' HO_8.out).2.2); (case side4 => exact (Kd.R_reads' HO_8.out).2.1); rintro e w' ⟨rfl, ⟨nd, rfl⟩⟩; refine ⟨_, rfl, ?_⟩; obtain ⟨Ao137, co137, eo137⟩ := Kd.R_slice HO178.out; subst eo137; obtain ⟨Ao138, co138, eo138⟩ := Kd.R_slice HO_9.out; subst eo138) | (go_at_call 18; (with_reducible refine (laws_eqIntS.calls kj71 _ _ t176 _ _ t115 false _ ?side1 ?side2 ?side3 ?side4 A129.out).mono ?_); (case side1 => exact qc_ (Kd.R_reads' HO178.out).2.2); (case side2 => exact (Kd.R_reads' HO178.out).2.1); (case side3 => exact qc_ (Kd.R_reads' HO_9.out).2.2); (case side4 => exact (Kd.R_reads' HO_9.out).2.1); rintro e w' ⟨rfl, ⟨nd, rfl⟩⟩))
                   go_meet
                   case rel => exact ⟨_, (true), qz2_, H', ⟨(by have := HJ20.out; have := HJ71.out; first | omega | exact Nat.le_refl _)⟩, ⟨(by (try simp only [hl123000_71]); (with_reducible repeat (first | apply Kd.R_alloc | apply Kd.R_drewN | apply Kd.R_drew)); exact Kd.R_mono HO_14.out (fun _ hk => hk.1.1.1.1.2.2))⟩, ⟨(by (try simp only [hl123000_71]); (with_reducible repeat (first | apply Kd.R_alloc | apply Kd.R_drewN | apply Kd.R_drew)); exact Kd.R_mono HO_15.out (fun _ hk => hk.1.1.1.1.2.2))⟩, ⟨(by (try simp only [hl123000_71]); (with_reducible repeat (first | apply Kd.R_alloc | apply Kd.R_drewN | apply Kd.R_drew)); exact Kd.R_mono HO_123000.out (fun _ hk => trivial))⟩, ⟨(by (try simp only [hl123000_71]); (with_reducible repeat (first | refine blk_drewN ?_ _ | refine blk_drew ?_ | refine blk_alloc ?_ _)); exact BK101.out)⟩, ⟨(by (try simp only [hl123000_71]); (with_reducible repeat (first | refine blk_drewN ?_ _ | refine blk_drew ?_ | refine blk_alloc ?_ _)); exact BK122.out)⟩, ⟨qz73_⟩⟩
                 ·
                  replace c128 := Bool.eq_false_iff.mpr c128
                  subst c128
                  have H1 : (laws_FnExactWitnessOf.j2 kj71 t159 t161 t160 true) = some r := by rw [if_neg (show ¬ (false = true) by decide)] at H; exact H
                  clear H
                  have H := H1
                  clear H1
                  have H' := am_ H
                  clear H
                  obtain ⟨Ao139, co139, eo139⟩ := Kd.R_slice HO175.out
                  subst eo139
                  obtain ⟨Ao140, co140, eo140⟩ := Kd.R_slice HO_8.out
                  subst eo140
                  go_wp2_with (first | ((with_reducible refine gate_callee (f := 18) rfl ?_); refine goesL_ (some 149) rfl rfl Try.func18 (by kernel_rfl) rfl #[.slice Ao139 t173.length co139, .slice Ao140 t112.length co140] rfl qz9_ ?_; (with_reducible refine (laws_eqIntS.calls kj71 _ _ t173 _ _ t112 false _ ?side1 ?side2 ?side3 ?side4 A127.out).mono ?_); (case side1 => exact qc_ (Kd.R_reads' HO175.out).2.2); (case side2 => exact (Kd.R_reads' HO175.out).2.1); (case side3 => exact qc_ (Kd.R_reads' HO_8.out).2.2); (case side4 => exact (Kd.R_reads' HO_8.out).2.1); rintro e w' ⟨rfl, ⟨nd, rfl⟩⟩; refine ⟨_, rfl, ?_⟩))
                  go_meet
                  case rel => exact ⟨_, (true), qz2_, H', ⟨(by have := HJ20.out; have := HJ71.out; first | omega | exact Nat.le_refl _)⟩, ⟨(by (try simp only [hl123000_71]); (with_reducible repeat (first | apply Kd.R_alloc | apply Kd.R_drewN | apply Kd.R_drew)); exact Kd.R_mono HO_14.out (fun _ hk => hk.1.1.1.1.2.2))⟩, ⟨(by (try simp only [hl123000_71]); (with_reducible repeat (first | apply Kd.R_alloc | apply Kd.R_drewN | apply Kd.R_drew)); exact Kd.R_mono HO_15.out (fun _ hk => hk.1.1.1.1.2.2))⟩, ⟨(by (try simp only [hl123000_71]); (with_reducible repeat (first | apply Kd.R_alloc | apply Kd.R_drewN | apply Kd.R_drew)); exact Kd.R_mono HO_123000.out (fun _ hk => trivial))⟩, ⟨(by (try simp only [hl123000_71]); (with_reducible repeat (first | refine blk_drewN ?_ _ | refine blk_drew ?_ | refine blk_alloc ?_ _)); exact BK101.out)⟩, ⟨(by (try simp only [hl123000_71]); (with_reducible repeat (first | refine blk_drewN ?_ _ | refine blk_drew ?_ | refine blk_alloc ?_ _)); exact BK122.out)⟩, ⟨qz73_⟩⟩
                case rest =>
                 clear HC113
                 try clear c1
                 try clear c2
                 try clear p2
                 try clear c3
                 try clear c4
                 try clear c4b0
                 try clear c4b1
                 try clear c5
                 try clear c6
                 try clear c6b0
                 try clear c6b1
                 try clear c8
                 try clear c9
                 try clear c9b0
                 try clear c10
                 try clear c11
                 try clear c12
                 try clear c13
                 try clear c16
                 try clear c18
                 try clear c20
                 try clear c21
                 try clear c33
                 try clear c35
                 try clear c37
                 try clear c38
                 try clear c39
                 try clear c40
                 try clear c46
                 try clear c48
                 try clear c59
                 try clear c62
                 try clear c65
                 try clear c68
                 try clear c81
                 try clear c86
                 try clear c86b0
                 try clear c88
                 try clear c90
                 try clear c101
                 try clear c105
                 try clear c105b0
                 try clear c107
                 try clear c107b0
                 try clear c108
                 try clear c108b0
                 try clear c108b1
                 try clear c118
                 try clear c128
                 try clear c130
                 try clear hcz119_0
                 try clear hcz11_0
                 try clear hcz23_0
                 try clear hcz25_0
                 try clear hcz33_0
                 try clear hcz38_0
                 try clear hcz41_0
                 try clear hcz82_0
                 try clear hfz119_0
                 try clear hfz11_0
                 try clear hfz23_0
                 try clear hfz25_0
                 try clear hfz33_0
                 try clear hfz38_0
                 try clear hfz41_0
                 try clear hfz82_0
                 try clear p2
                 obtain ⟨kq, x161_112, rfl, HA, HJ112, HO_14, HO_15, HO_123000, BK101, BK122, HB⟩ := hcut
                 have hl14_112 := (Kd.R_reads' HO_14.out).1
                 rw [hl14_112] at HO_14
                 (try simp only [hl14_112])
                 (try simp only [hl14_112] at BK101)
                 (try simp only [hl14_112] at BK122)
                 (try simp only [hl14_112] at HO_15)
                 (try simp only [hl14_112] at HO_123000)
                 have hl15_112 := (Kd.R_reads' HO_15.out).1
                 rw [hl15_112] at HO_15
                 (try simp only [hl15_112])
                 (try simp only [hl15_112] at BK101)
                 (try simp only [hl15_112] at BK122)
                 (try simp only [hl15_112] at HO_14)
                 (try simp only [hl15_112] at HO_123000)
                 cases kq with
                 | zero => exact absurd HA.out (by simp [laws_FnExactWitnessOf.j2])
                 | succ kj112 =>
                  have H := HA.out
                  clear HA
                  simp only [laws_FnExactWitnessOf.j2] at H
                  by_cases c141 : x161_112 = true
                  ·
                   subst c141
                   have H1 : (some false) = some r := by rw [if_pos rfl] at H; exact H
                   clear H
                   have H := H1
                   clear H1
                   exact absurd ((Option.some.inj H).trans hr_) (by decide)
                  ·
                   replace c141 := Bool.eq_false_iff.mpr c141
                   subst c141
                   have H1 : ((laws_heldIntS.f kj112 t159 1).bind fun t182 => (if t182 < 0 then (some false) else ((laws_heldIntS.f kj112 t161 t182).bind fun t183 => (if t183 < 0 then (some false) else (if t183 = t160 then (some true) else (some false)))))) = some r := by rw [if_neg (show ¬ (false = true) by decide)] at H; exact H
                   clear H
                   have H := H1
                   clear H1
                   replace H := Option.bind_eq_some_iff.mp H
                   obtain ⟨t182, A1420, H⟩ := H
                   replace H : (if t182 < 0 then (some false) else ((laws_heldIntS.f kj112 t161 t182).bind fun t183 => (if t183 < 0 then (some false) else (if t183 = t160 then (some true) else (some false))))) = some r := H
                   have A142 := am_ A1420
                   clear A1420
                   by_cases c143 : t182 < 0
                   ·
                    rw [if_pos c143] at H
                    have c143b0 : decide (t182 < 0) = true := decide_eq_true c143
                    clear c143
                    exact absurd ((Option.some.inj H).trans hr_) (by decide)
                   ·
                    rw [if_neg c143] at H
                    have c143b0 : decide (t182 < 0) = false := decide_eq_false c143
                    clear c143
                    replace H := Option.bind_eq_some_iff.mp H
                    obtain ⟨t183, A1440, H⟩ := H
                    replace H : (if t183 < 0 then (some false) else (if t183 = t160 then (some true) else (some false))) = some r := H
                    have A144 := am_ A1440
                    clear A1440
                    by_cases c145 : t183 < 0
                    ·
                     rw [if_pos c145] at H
                     have c145b0 : decide (t183 < 0) = true := decide_eq_true c145
                     clear c145
                     exact absurd ((Option.some.inj H).trans hr_) (by decide)
                    ·
                     rw [if_neg c145] at H
                     have c145b0 : decide (t183 < 0) = false := decide_eq_false c145
                     clear c145
                     by_cases c146 : t183 = t160
                     ·
                      rw [if_pos c146] at H
                      have c146b0 : (t183 == t160) = true := beq_iff_eq.mpr c146
                      have c146b1 : (t183 != t160) = false := bne_eq_false_iff_eq.mpr c146
                      clear c146
                      obtain rfl := Option.some.inj H
                      go_wp2_with (first | ((with_reducible refine gate_callee (f := 21) rfl ?_); refine goesL_ (some 164) rfl rfl Try.func21 (by kernel_rfl) rfl #[.slice Ao114 t159.length co114, .int .i64 1] rfl qz9_ ?_; (with_reducible refine (laws_heldIntS.calls kj112 _ _ t159 1 t182 _ ?side1 ?side2 A142.out).mono ?_); (case side1 => exact qc_ (Kd.R_reads' HO_14.out).2.2); (case side2 => exact (Kd.R_reads' HO_14.out).2.1); rintro e w' ⟨rfl, ⟨nd, rfl⟩⟩; refine ⟨_, rfl, ?_⟩) | ((with_reducible refine gate_callee (f := 21) rfl ?_); refine goesL_ (some 169) rfl rfl Try.func21 (by kernel_rfl) rfl #[.slice Ao116 t161.length co116, .int .i64 t182] rfl qz9_ ?_; (with_reducible refine (laws_heldIntS.calls kj112 _ _ t161 t182 t183 _ ?side1 ?side2 A144.out).mono ?_); (case side1 => exact qc_ (Kd.R_reads' HO_15.out).2.2); (case side2 => exact (Kd.R_reads' HO_15.out).2.1); rintro e w' ⟨rfl, ⟨nd, rfl⟩⟩; refine ⟨_, rfl, ?_⟩))
                      go_ret
                      exact ⟨qz5_, qz73_⟩
                     ·
                      rw [if_neg c146] at H
                      have c146b0 : (t183 == t160) = false := beq_eq_false_iff_ne.mpr c146
                      have c146b1 : (t183 != t160) = true := bne_iff_ne.mpr c146
                      exact absurd ((Option.some.inj H).trans hr_) (by decide)
               ·
                rw [if_neg c108] at H
                have c108b0 : (t163 == t160) = false := beq_eq_false_iff_ne.mpr c108
                have c108b1 : (t163 != t160) = true := bne_iff_ne.mpr c108
                exact absurd ((Option.some.inj H).trans hr_) (by decide)
         ·
          replace c68 := Bool.eq_false_iff.mpr c68
          subst c68
          have H1 : (some false) = some r := by rw [if_neg (show ¬ (false = true) by decide)] at H; exact H
          clear H
          have H := H1
          clear H1
          exact absurd ((Option.some.inj H).trans hr_) (by decide)
        ·
         replace c65 := Bool.eq_false_iff.mpr c65
         subst c65
         have H1 : (some false) = some r := by rw [if_neg (show ¬ (false = true) by decide)] at H; exact H
         clear H
         have H := H1
         clear H1
         exact absurd ((Option.some.inj H).trans hr_) (by decide)
       ·
        replace c62 := Bool.eq_false_iff.mpr c62
        subst c62
        have H1 : (some false) = some r := by rw [if_neg (show ¬ (false = true) by decide)] at H; exact H
        clear H
        have H := H1
        clear H1
        exact absurd ((Option.some.inj H).trans hr_) (by decide)

end Go.Proofs.Ytekijbcblajjbaa.PT
end
section
/- Arguments that are read as data have the kinds' own form: for each kind, compositionally. Own text, for every seat (Ytekijbcblajjbaa: the seat's name). -/
namespace Go.Proofs.YtekijbcblajjbaaO
open Go.RowKit Go.ChangeShapes Go.WideShapes Go.ChangeAt Go.Proofs.YtekijbcblajjbaaW.PrintWords

/-- What is read as data of type T is of the kind d, and good. -/
def Opens {α : Type} {H : Type} (enc : TypeId × Value → H) (P : Program) (w : World) (T : TypeId) (d : Kd α) (good : α → Prop) : Prop :=
 ∀ (fuel : Nat) (cs : List Value) (x : DataW H × List MemPlace), DataW.trod enc P w 0 (fun _ => true) true fuel T cs = some x → ∃ a, d.K w a cs ∧ good a

/-- What is read as a run of fields of these types (each with its cells) is of the kind d, and good. -/
def OpensSeq {α : Type} {H : Type} (enc : TypeId × Value → H) (P : Program) (w : World) (fs : List (TypeId × Nat)) (d : Kd α) (good : α → Prop) : Prop :=
 ∀ (fuel : Nat) (cs : List Value), cs.length = (fs.map (·.2)).sum → (∀ (j : Nat) (T n : Nat), fs[j]? = some (T, n) → ∃ x, DataW.trod enc P w 0 (fun _ => true) true fuel T ((cs.drop ((fs.take j).map (·.2)).sum).take n) = some x) → ∃ a, d.K w a cs ∧ good a

section
variable {H : Type} {enc : TypeId × Value → H} {P : Program} {w : World}

def IntGood (k : IntKind) (a : Int) : Prop := (Lit.int k a).wf = true
def StrGood (a : ByteArray) : Prop := a.size ≤ 9223372036854775807
def ListGood {α : Type} (g : α → Prop) (l : List α) : Prop := l.length ≤ 9223372036854775807 ∧ ∀ x ∈ l, g x

theorem opens_int {T : TypeId} {k : IntKind} (ht : P.underlying T = some (.int k)) : Opens enc P w T (Kd.int k) (IntGood k) := by
 intro fuel cs x h
 obtain ⟨n, rfl, _, hw⟩ := DataW.trod_int ht h
 exact ⟨n, rfl, hw⟩
theorem opens_bool {T : TypeId} (ht : P.underlying T = some .bool) : Opens enc P w T Kd.bool (fun _ => True) := by
 intro fuel cs x h
 obtain ⟨n, rfl, _⟩ := DataW.trod_bool ht h
 exact ⟨n, rfl, trivial⟩
theorem opens_string {T : TypeId} (ht : P.underlying T = some .string) : Opens enc P w T Kd.string StrGood := by
 intro fuel cs x h
 obtain ⟨s, rfl, _, hs⟩ := DataW.trod_string ht h
 exact ⟨s, rfl, (by unfold StrGood; unfold maxLen at hs; omega)⟩

theorem choose_list {α : Type} {n : Nat} {p : Nat → α → Prop} (h : ∀ i, i < n → ∃ a, p i a) : ∃ l : List α, l.length = n ∧ ∀ i a, l[i]? = some a → p i a := by
 induction n with
 | zero => exact ⟨[], rfl, fun i a hi => by simp at hi⟩
 | succ n ih =>
  obtain ⟨l, hl, hp⟩ := ih (fun i hi => h i (by omega))
  obtain ⟨a, ha⟩ := h n (by omega)
  refine ⟨l ++ [a], (by simp [hl]), fun i b hi => ?_⟩
  rcases Nat.lt_or_ge i l.length with hlt | hge
  ·
   rw [List.getElem?_append_left hlt] at hi
   exact hp i b hi
  ·
   rw [List.getElem?_append_right hge] at hi
   have : i - l.length = 0 := by
    rcases Nat.eq_zero_or_pos (i - l.length) with h0 | h0
    ·
     exact h0
    ·
     rw [List.getElem?_eq_none (by simp; omega)] at hi; simp at hi
   rw [this] at hi
   simp at hi
   subst hi
   have : i = n := by omega
   rw [this]
   exact ha

theorem opens_slice {α : Type} {d : Kd α} {good : α → Prop} {T e : TypeId} (ht : P.underlying T = some (.slice e)) (hc : P.cellsOf e = d.sz) (ho : Opens enc P w e d good) : Opens enc P w T (Kd.slice e d) (ListGood good) := by
 intro fuel cs x h
 rcases Deep.open_slice ht h with ⟨rfl, _⟩ | ⟨a, len, cap, m, n, D, Pl, rfl, _, hl, hm, hmm, _, hx⟩
 ·
  exact ⟨[], ⟨none, 0, rfl, Nat.le_refl _, ⟨rfl, (by simp), fun h0 => by simp at h0⟩⟩, ⟨(by simp), fun x hx => by simp at hx⟩⟩
 ·
  have hle : len ≤ m := by rw [hmm]; split <;> omega
  have hex : ∀ i, i < len → ∃ b : α, (∃ c, c.length = d.sz ∧ d.K w b c ∧ ∀ j u, c[j]? = some u → w.cell? (a.add (i * d.sz + j)) = some u) ∧ good b := by
   intro i hi
   obtain ⟨cs', h1, h2⟩ := hx i (by omega)
   obtain ⟨b, hK, hg⟩ := ho _ _ _ h2
   obtain ⟨_, hlen, hcell⟩ := World.cells?_some h1
   refine ⟨b, ⟨cs', (by rw [hlen, hc]), hK, fun j u hu => ?_⟩, hg⟩
   have hj : j < P.cellsOf e := by
    rw [← hlen]
    exact (List.getElem?_eq_some_iff.1 hu).1
   rw [← Deep.add_add, ← hc, hcell j hj, hu]
  obtain ⟨l, hll, hp⟩ := choose_list hex
  unfold maxLen at hm
  refine ⟨l, ⟨some a, cap, by rw [hll], by omega, ⟨rfl, by omega, fun _ => ⟨a, rfl, fun j p hj => (hp j p hj).1⟩⟩⟩, ⟨(by omega), fun x hx => ?_⟩⟩
  obtain ⟨i, hi, rfl⟩ := List.getElem_of_mem hx
  exact (hp i _ (List.getElem?_eq_getElem hi)).2

theorem opensSeq_one {α : Type} {d : Kd α} {good : α → Prop} {T n : Nat} (ho : Opens enc P w T d good) : OpensSeq enc P w [(T, n)] d good := by
 intro fuel cs hlen h
 obtain ⟨x, hx⟩ := h 0 T n rfl
 simp at hlen
 simp [List.take_of_length_le (Nat.le_of_eq hlen)] at hx
 exact ho _ _ _ hx
theorem opensSeq_cons {α β : Type} {d : Kd α} {good : α → Prop} {d2 : Kd β} {good2 : β → Prop} {T n : Nat} {fs : List (TypeId × Nat)} (ho : Opens enc P w T d good) (hs : OpensSeq enc P w fs d2 good2) :
  OpensSeq enc P w ((T, n) :: fs) (Kd.pair d d2) (fun x => good x.1 ∧ good2 x.2) := by
 intro fuel cs hlen h
 obtain ⟨x, hx⟩ := h 0 T n rfl
 simp at hx
 obtain ⟨a, hK, hg⟩ := ho _ _ _ hx
 simp only [List.map_cons, List.sum_cons] at hlen
 obtain ⟨b, hK2, hg2⟩ := hs fuel (cs.drop n) (by rw [List.length_drop, hlen]; omega) (fun j T' n' hj => by
  obtain ⟨y, hy⟩ := h (j + 1) T' n' (by simpa using hj)
  refine ⟨y, ?_⟩
  simp only [List.take_succ_cons, List.map_cons, List.sum_cons] at hy
  rw [List.drop_drop]
  exact hy)
 exact ⟨(a, b), ⟨cs.take n, cs.drop n, (List.take_append_drop n cs).symm, hK, hK2⟩, hg, hg2⟩

/-- A struct whose fields stand one behind the other. -/
theorem opens_struct {α β : Type} {d : Kd α} {good : α → Prop} {T : TypeId} {fs : Array Field} {l : List (TypeId × Nat)} (f : β → α) (g : α → β) (hfg : ∀ a, f (g a) = a) (ht : P.underlying T = some (.struct fs))
  (hl : l.length = fs.size) (hf : ∀ (j : Nat) (T' n : Nat), l[j]? = some (T', n) → ∃ fd, fs[j]? = some fd ∧ fd.type = T' ∧ P.cellsOf T' = n ∧ fd.offset = ((l.take j).map (·.2)).sum) (hc : P.cellsOf T = (l.map (·.2)).sum)
  (hs : OpensSeq enc P w l d good) : Opens enc P w T (Kd.iso d f) (fun x => good (f x)) := by
 intro fuel cs x h
 obtain ⟨xs, n, _, _, hlen, hxl, hx⟩ := DataW.trod_struct ht h
 obtain ⟨a, hK, hg⟩ := hs n cs (by rw [hlen, hc]) (fun j T' n' hj => by
  obtain ⟨fd, h1, h2, h3, h4⟩ := hf j T' n' hj
  have h5 := hx j fd h1
  have hj2 : j < xs.length := by
   have := (List.getElem?_eq_some_iff.1 hj).1
   omega
  rw [List.getElem?_eq_getElem hj2, h2, h3, h4] at h5
  exact ⟨_, h5⟩)
 refine ⟨g a, ?_, ?_⟩
 ·
  show d.K w (f (g a)) cs
  rw [hfg]; exact hK
 ·
  show good (f (g a))
  rw [hfg]; exact hg
end
end Go.Proofs.YtekijbcblajjbaaO
end
section
namespace Go.Proofs.Ytekijbcblajjbaa.fnExactWitnessOf
open Go.RowKit Go.ChangeShapes Go.WideShapes Go.ChangeAt Go.Proofs.YtekijbcblajjbaaO Go.Proofs.Ytekijbcblajjbaa.PT Go.Proofs.YtekijbcblajjbaaW.PrintWords Go.Proofs.YtekijbcblajjbaaW.PrintLast
set_option linter.unusedVariables false
theorem opensT3 {H : Type} {enc : TypeId × Value → H} {w : World} : Opens enc Try.prog w 3 (Kd.int .i64) (IntGood .i64) := opens_int Try.underlying3
def goodT117 : S117 → Prop := (fun x : S117 => (IntGood .i64) x.f0 ∧ (IntGood .i64) x.f1 ∧ (IntGood .i64) x.f2 ∧ (IntGood .i64) x.f3)
theorem opensT117 {H : Type} {enc : TypeId × Value → H} {w : World} : Opens enc Try.prog w 117 k117 goodT117 :=
 opens_struct (l := [(3, 1), (3, 1), (3, 1), (3, 1)]) (fun x : S117 => (x.f0, x.f1, x.f2, x.f3)) (fun a => ⟨a.1, a.2.1, a.2.2.1, a.2.2.2⟩) (fun _ => rfl) Try.underlying117 rfl (fun j T n h => match j, T, n, h with
  | 0, _, _, h => by cases h; exact ⟨_, rfl, rfl, (by kernel_rfl), rfl⟩
  | 1, _, _, h => by cases h; exact ⟨_, rfl, rfl, (by kernel_rfl), rfl⟩
  | 2, _, _, h => by cases h; exact ⟨_, rfl, rfl, (by kernel_rfl), rfl⟩
  | 3, _, _, h => by cases h; exact ⟨_, rfl, rfl, (by kernel_rfl), rfl⟩
  | _ + 4, _, _, h => by simp at h) (by kernel_rfl) (opensSeq_cons opensT3 (opensSeq_cons opensT3 (opensSeq_cons opensT3 (opensSeq_one opensT3))))
theorem opensT56 {H : Type} {enc : TypeId × Value → H} {w : World} : Opens enc Try.prog w 56 (Kd.slice 117 k117) (ListGood goodT117) := opens_slice Try.underlying56 (by kernel_rfl) opensT117
def goodT58 : S58 → Prop := (fun x : S58 => (ListGood goodT117) x.f0)
theorem opensT58 {H : Type} {enc : TypeId × Value → H} {w : World} : Opens enc Try.prog w 58 k58 goodT58 :=
 opens_struct (l := [(56, 1)]) (fun x : S58 => x.f0) (fun a => ⟨a⟩) (fun _ => rfl) Try.underlying58 rfl (fun j T n h => match j, T, n, h with
  | 0, _, _, h => by cases h; exact ⟨_, rfl, rfl, (by kernel_rfl), rfl⟩
  | _ + 1, _, _, h => by simp at h) (by kernel_rfl) (opensSeq_one opensT56)
theorem opensT33 {H : Type} {enc : TypeId × Value → H} {w : World} : Opens enc Try.prog w 33 (Kd.slice 3 (Kd.int .i64)) (ListGood (IntGood .i64)) := opens_slice Try.underlying33 (by kernel_rfl) opensT3
/-- What is to be shown of the law, over numbers and lists alone. -/
def Pure : Prop := ∀ (x0 : S58) (x1 : List Int) (x2 : List Int), goodT58 x0 → (ListGood (IntGood .i64)) x1 → (ListGood (IntGood .i64)) x2 → ∃ k, laws_FnExactWitnessOf.f k x0.f0 x1 x2 = some true
end Go.Proofs.Ytekijbcblajjbaa.fnExactWitnessOf
end
section
/- The field and the greater field, over whole numbers: what the printed functions of chapters 2 and 3 come to. -/
namespace Go.Proofs.Ytekijbcblajjbaa.PT
open Go.RowKit Go.Proofs.YtekijbcblajjbaaW.PrintWords Go.Proofs.YtekijbcblajjbaaW.PrintLast Go.Proofs.YtekijbcblajjbaaW.PrintMore
set_option linter.unusedVariables false
set_option linter.unusedSimpArgs false

theorem w64 {n : Int} (h0 : -9223372036854775808 ≤ n) (h1 : n ≤ 9223372036854775807) : wrap64 n = n := by unfold wrap64; omega
theorem tmod_nn {a b : Int} (h : 0 ≤ a) : Int.tmod a b = a % b := Int.tmod_eq_emod_of_nonneg h
def inF (a : Int) : Prop := 0 ≤ a ∧ a ≤ 2130706432
instance (a : Int) : Decidable (inF a) := by unfold inF; infer_instance
def fadd (a b : Int) : Int := (a + b) % 2130706433
def fsub (a b : Int) : Int := (a - b) % 2130706433
def fmul (a b : Int) : Int := (a * b) % 2130706433
theorem inF_add (a b : Int) : inF (fadd a b) := by unfold inF fadd; omega
theorem inF_sub (a b : Int) : inF (fsub a b) := by unfold inF fsub; omega
theorem inF_mul (a b : Int) : inF (fmul a b) := by unfold inF fmul; omega
theorem mul_bd {a b : Int} (ha : inF a) (hb : inF b) : 0 ≤ a * b ∧ a * b ≤ 4539909903617114624 := by
 obtain ⟨h1, h2⟩ := ha
 obtain ⟨h3, h4⟩ := hb
 refine ⟨Int.mul_nonneg h1 h3, Int.le_trans (Int.mul_le_mul h2 h4 h3 (by omega)) (by decide)⟩
end Go.Proofs.Ytekijbcblajjbaa.PT
end
section
/- What the printed functions of the field and of the greater field answer: the same sums and products on both sides. -/
namespace Go.Proofs.Ytekijbcblajjbaa.PT
open Go.RowKit Go.Proofs.YtekijbcblajjbaaW.PrintWords Go.Proofs.YtekijbcblajjbaaW.PrintLast Go.Proofs.YtekijbcblajjbaaW.PrintMore
set_option linter.unusedVariables false
set_option linter.unusedSimpArgs false

theorem impl_in_eq (a b c : Int) : impl_in.f a b c = some (decide (b ≤ a ∧ a ≤ c)) := by
 unfold impl_in.f; by_cases h : b ≤ a <;> simp [h]
theorem spec_l01In_eq (a b c : Int) : spec_l01In.f a b c = some (decide (b ≤ a ∧ a ≤ c)) := by
 unfold spec_l01In.f; by_cases h : b ≤ a <;> simp [h]
theorem impl_FieldOK_eq (a : Int) : impl_FieldOK.f a = some (decide (inF a)) := by
 unfold impl_FieldOK.f; rw [impl_in_eq]; rfl
theorem spec_FieldOK_eq (a : Int) : spec_FieldOK.f a = some (decide (inF a)) := by
 unfold spec_FieldOK.f; rw [spec_l01In_eq]; rfl
theorem impl_add_eq {a b : Int} (ha : inF a) (hb : inF b) : impl_add.f a b = some (fadd a b) := by
 unfold inF at ha hb; unfold impl_add.f fadd; rw [w64 (by omega) (by omega), tmod_nn (by omega)]
theorem spec_l01Add_eq {a b : Int} (ha : inF a) (hb : inF b) : spec_l01Add.f a b = some (fadd a b) := by
 unfold inF at ha hb; unfold spec_l01Add.f fadd; rw [w64 (by omega) (by omega), tmod_nn (by omega)]
theorem impl_sub_eq {a b : Int} (ha : inF a) (hb : inF b) : impl_sub.f a b = some (fsub a b) := by
 unfold inF at ha hb; unfold impl_sub.f fsub; rw [w64 (n := a - b) (by omega) (by omega), w64 (by omega) (by omega), tmod_nn (by omega)]
 congr 1; omega
theorem spec_l01Sub_eq {a b : Int} (ha : inF a) (hb : inF b) : spec_l01Sub.f a b = some (fsub a b) := by
 unfold inF at ha hb; unfold spec_l01Sub.f fsub; rw [w64 (n := a + _) (by omega) (by omega), w64 (by omega) (by omega), tmod_nn (by omega)]
 congr 1; omega
theorem impl_mul_eq {a b : Int} (ha : inF a) (hb : inF b) : impl_mul.f a b = some (fmul a b) := by
 have := mul_bd ha hb
 unfold impl_mul.f fmul; rw [w64 (by omega) (by omega), tmod_nn (by omega)]
theorem spec_l01Mul_eq {a b : Int} (ha : inF a) (hb : inF b) : spec_l01Mul.f a b = some (fmul a b) := by
 have := mul_bd ha hb
 unfold spec_l01Mul.f fmul; rw [w64 (by omega) (by omega), tmod_nn (by omega)]
/-! lists -/
end Go.Proofs.Ytekijbcblajjbaa.PT
end
section
/- The laws' own helpers: elements copied, compared, marked; and powers of two. -/
namespace Go.Proofs.Ytekijbcblajjbaa.PT
open Go.RowKit Go.Proofs.YtekijbcblajjbaaW.PrintWords Go.Proofs.YtekijbcblajjbaaW.PrintLast Go.Proofs.YtekijbcblajjbaaW.PrintMore
set_option linter.unusedVariables false
set_option linter.unusedSimpArgs false

theorem getD_at {α : Type} {l : List α} {z : α} {i : Nat} (h : i < l.length) : l.getD i z = l[i] := by
 rw [List.getD_eq_getElem?_getD, List.getElem?_eq_getElem h]; rfl
theorem set_mid {α : Type} (a b : List α) (x y : α) : (a ++ x :: b).set a.length y = a ++ y :: b := by
 rw [List.set_append_right _ _ (Nat.le_refl _)]; simp
/-! marks: a list's cells are numbered from k on -/
/-! powers of two -/
end Go.Proofs.Ytekijbcblajjbaa.PT
end
section
/- Steps that several laws share: same answers compared, lists turned in place. -/
namespace Go.Proofs.Ytekijbcblajjbaa.PT
open Go.RowKit Go.Proofs.YtekijbcblajjbaaW.PrintWords Go.Proofs.YtekijbcblajjbaaW.PrintLast Go.Proofs.YtekijbcblajjbaaW.PrintMore
set_option linter.unusedVariables false
set_option linter.unusedSimpArgs false
/-- A step with its answer known, as a rewriting (no unfolding in the kernel). -/
theorem bS {α β : Type} (a : α) (f : α → Option β) : (some a).bind f = f a := Eq.trans (Eq.refl _) (Option.bind_some a f)
end Go.Proofs.Ytekijbcblajjbaa.PT
end
section
/- Gates and circuits: the laws' helpers, and what both sides answer. -/
namespace Go.Proofs.Ytekijbcblajjbaa.PT
open Go.RowKit Go.Proofs.YtekijbcblajjbaaW.PrintWords Go.Proofs.YtekijbcblajjbaaW.PrintLast Go.Proofs.YtekijbcblajjbaaW.PrintMore
set_option linter.unusedVariables false
set_option linter.unusedSimpArgs false
theorem rdGateS_src {l : List S117} {i : Nat} (h : i < l.length) : rd_T117 l (i : Int) = l[i] := by
 show l.getD (i : Int).toNat z117 = l[i]
 rw [Int.toNat_natCast, getD_at h]
theorem rdGateS {l : List S115} {i : Nat} (h : i < l.length) : rd_T115 l (i : Int) = l[i] := by
 show l.getD (i : Int).toNat z115 = l[i]
 rw [Int.toNat_natCast, getD_at h]
def convGateS (l : List S117) : List S115 := l.map fun x => ⟨x.f0, x.f1, x.f2, x.f3⟩
theorem convGateS_length (l : List S117) : (convGateS l).length = l.length := by simp [convGateS]
theorem szGateS_big {l : List S117} {a : Int} (ha : 0 ≤ a) (ha2 : a ≤ 1048576) (hl : l.length ≤ 9223372036854775807) (h : a < l.length) : laws_szGateS.f l a = some (-1) := by
 unfold laws_szGateS.f; rw [w64 (by omega) (by omega), if_pos (by omega)]
theorem szGateS_fit {l : List S117} {a : Int} (ha2 : a ≤ 1048576) (h : (l.length : Int) ≤ a) : laws_szGateS.f l a = some (a - l.length) := by
 unfold laws_szGateS.f; rw [w64 (by omega) (by omega), if_neg (by omega)]
theorem toGateS_l0 (l : List S117) (hl : l.length ≤ 1048576) (d : Nat) : ∀ (k i : Nat), i + d = l.length → d < k →
  laws_toGateS.l0 k l (convGateS (l.take i) ++ List.replicate d z115) i = some (convGateS l) := by
 induction d with
 | zero =>
  intro k i hi hk
  obtain ⟨k, rfl⟩ : ∃ m, k = m + 1 := ⟨k - 1, (by omega)⟩
  simp only [laws_toGateS.l0]; rw [if_neg (by omega), List.take_of_length_le (by omega)]; simp
 | succ d ih =>
  intro k i hi hk
  obtain ⟨k, rfl⟩ : ∃ m, k = m + 1 := ⟨k - 1, (by omega)⟩
  have hlt : i < l.length := by omega
  have hlen : (convGateS (l.take i)).length = i := by rw [convGateS_length, List.length_take]; omega
  simp only [laws_toGateS.l0, laws_toGate.f]
  rw [if_pos (by omega), if_pos (by omega), rdGateS_src hlt]
  simp only [bS]
  rw [if_pos (by rw [List.length_append, hlen, List.length_replicate]; omega), Int.toNat_natCast, List.replicate_succ]
  have hs := fun y => set_mid (convGateS (l.take i)) (List.replicate d z115) z115 y
  rw [hlen] at hs
  rw [hs, w64 (by omega) (by omega), show (i : Int) + 1 = ((i + 1 : Nat) : Int) by omega]
  have := ih k (i + 1) (by omega) (by omega)
  rw [List.take_succ_eq_append_getElem hlt] at this
  simp only [convGateS, List.map_append, List.map_cons, List.map_nil, List.append_assoc, List.cons_append, List.nil_append] at this
  exact this
theorem toGateS_eq {l : List S117} (hl : l.length ≤ 1048576) {k : Nat} (hk : l.length < k) : laws_toGateS.f k l = some (convGateS l) := by
 unfold laws_toGateS.f
 rw [if_pos (by omega), if_pos (by omega)]
 have := toGateS_l0 l (by omega) l.length k 0 (by omega) hk
 rw [Int.natCast_zero, List.take_zero] at this
 rw [Int.toNat_natCast]
 exact this
theorem eqGate_refl (x : S115) : laws_eqGate.f x.f0 x.f1 x.f2 x.f3 x.f0 x.f1 x.f2 x.f3 = some true := by
 unfold laws_eqGate.f; rw [if_pos rfl, if_pos rfl, if_pos rfl, if_pos rfl]
theorem eqGateS_l0 (a : List S115) (hl : a.length ≤ 1048576) (d : Nat) : ∀ (k i : Nat), i + d = a.length → d < k → laws_eqGateS.l0 k a a i = some true := by
 induction d with
 | zero =>
  intro k i hi hk
  obtain ⟨k, rfl⟩ : ∃ m, k = m + 1 := ⟨k - 1, (by omega)⟩
  simp only [laws_eqGateS.l0]; rw [if_neg (by omega)]
 | succ d ih =>
  intro k i hi hk
  obtain ⟨k, rfl⟩ : ∃ m, k = m + 1 := ⟨k - 1, (by omega)⟩
  simp only [laws_eqGateS.l0]
  rw [if_pos (show (i : Int) < (a.length : Int) by omega), if_pos (show 0 ≤ (i : Int) by omega), if_pos (show (i : Int) < (a.length : Int) by omega), eqGate_refl]
  simp only [bS, if_true]
  rw [w64 (by omega) (by omega), show (i : Int) + 1 = ((i + 1 : Nat) : Int) by omega]
  exact ih k (i + 1) (by omega) (by omega)
theorem eqGateS_refl {a : List S115} (hl : a.length ≤ 1048576) {k : Nat} (hk : a.length < k) : laws_eqGateS.f k a a = some true := by
 unfold laws_eqGateS.f; rw [if_pos rfl]; exact eqGateS_l0 a hl a.length k 0 (by omega) hk
theorem szCircuit_big {l : List S117} {a : Int} (ha : 0 ≤ a) (ha2 : a ≤ 1048576) (hl : l.length ≤ 9223372036854775807) (h : a < l.length) : laws_szCircuit.f l a = some (-1) := by
 unfold laws_szCircuit.f; rw [szGateS_big ha ha2 hl h]; simp only [bS]; rw [if_pos (by omega)]
theorem szCircuit_fit {l : List S117} {a : Int} (ha2 : a ≤ 1048576) (h : (l.length : Int) ≤ a) : laws_szCircuit.f l a = some (a - l.length) := by
 unfold laws_szCircuit.f; rw [szGateS_fit ha2 h]; simp only [bS]; rw [if_neg (by omega)]
theorem toCircuit_eq {l : List S117} (hl : l.length ≤ 1048576) {k : Nat} (hk : l.length < k) : laws_toCircuit.f k l = some (convGateS l) := by
 unfold laws_toCircuit.f; rw [toGateS_eq hl hk]; simp only [bS]
theorem eqCircuit_refl {a : List S115} (hl : a.length ≤ 1048576) {k : Nat} (hk : a.length < k) : laws_eqCircuit.f k a a = some true := by
 unfold laws_eqCircuit.f; rw [eqGateS_refl hl hk]; simp only [bS, if_true]
def gateB (x : S115) (i : Int) : Bool :=
 decide (1 ≤ x.f0 ∧ x.f0 ≤ 8) &&
 (if 4 ≤ x.f0 ∧ x.f0 ≤ 7 then decide (0 ≤ x.f1 ∧ x.f1 ≤ i - 1) && decide (0 ≤ x.f2 ∧ x.f2 ≤ i - 1) && (x.f3 == 0)
 else if x.f0 = 8 then decide (0 ≤ x.f1 ∧ x.f1 ≤ i - 1) && (x.f2 == 0) && (x.f3 == 0)
 else if x.f0 = 3 then (x.f1 == 0) && (x.f2 == 0) && decide (inF x.f3)
 else (x.f1 == 0) && (x.f2 == 0) && (x.f3 == 0))
theorem l11Gate_eq (x : S115) {i : Int} (h0 : 0 ≤ i) (h1 : i ≤ 1048576) {k : Nat} (hk : 0 < k) : spec_l11Gate.f k x.f0 x.f1 x.f2 x.f3 i = some (gateB x i) := by
 obtain ⟨k, rfl⟩ : ∃ m, k = m + 1 := ⟨k - 1, (by omega)⟩
 obtain ⟨a, b, c, d⟩ := x
 have j1 : ∀ e, spec_l11Gate.j0 (k + 1) e a b c d = some (if e = true then false else if a = 3 then decide (inF d) else (d == 0)) := by
  intro e
  simp only [spec_l11Gate.j0]
  cases e
  ·
   simp only [Bool.false_eq_true, if_false]
   by_cases h3 : a = 3
   ·
    rw [if_pos h3, if_pos h3, spec_FieldOK_eq]; rfl
   ·
    rw [if_neg h3, if_neg h3]
  ·
   rfl
 unfold spec_l11Gate.f gateB spec_l11Uses.f
 simp only [spec_l01In_eq, bS, j1]
 rw [w64 (n := i - 1) (by omega) (by omega)]
 by_cases hk : 1 ≤ a ∧ a ≤ 8
 ·
  rw [decide_eq_true hk]
  simp only [if_true, Bool.true_and]
  by_cases h4 : 4 ≤ a ∧ a ≤ 7
  ·
   have n3 : ¬ a = 3 := by omega
   rw [decide_eq_true h4, if_pos h4]
   simp only [if_true, bS, n3, if_false]
   by_cases hb : 0 ≤ b ∧ b ≤ i - 1
   ·
    by_cases hc : 0 ≤ c ∧ c ≤ i - 1
    ·
     simp [hb, hc]
    ·
     simp [hb, hc]
   ·
    simp [hb]
  ·
   rw [decide_eq_false h4, if_neg h4]
   by_cases h8 : a = 8
   ·
    have n3 : ¬ a = 3 := by omega
    simp only [h8, if_true, bS, Bool.false_eq_true, if_false]
    by_cases hb : 0 ≤ b ∧ b ≤ i - 1
    ·
     by_cases hc : c = 0
     ·
      simp [hb, hc]
     ·
      simp [hb, hc]
    ·
     simp [hb]
   ·
    simp only [h8, if_false, bS, Bool.false_eq_true]
    by_cases hb : b = 0
    ·
     by_cases hc : c = 0
     ·
      by_cases h3 : a = 3
      ·
       simp [hb, hc, h3]
      ·
       simp [hb, hc, h3]
     ·
      by_cases h3 : a = 3
      ·
       simp [hb, hc, h3]
      ·
       simp [hb, hc, h3]
    ·
     by_cases h3 : a = 3
     ·
      simp [hb, h3]
     ·
      simp [hb, h3]
 ·
  rw [decide_eq_false hk]; rfl
theorem isGate_eq (x : S115) {i : Int} (h0 : 0 ≤ i) (h1 : i ≤ 1048576) {k : Nat} (hk : 0 < k) : impl_isGate.f k x.f0 x.f1 x.f2 x.f3 i = some (gateB x i) := by
 obtain ⟨k, rfl⟩ : ∃ m, k = m + 1 := ⟨k - 1, (by omega)⟩
 obtain ⟨a, b, c, d⟩ := x
 unfold impl_isGate.f gateB
 simp only [impl_isGate.j0, impl_in_eq, impl_FieldOK_eq, bS]
 rw [w64 (n := i - 1) (by omega) (by omega)]
 by_cases h3 : a = 3
 ·
  subst h3
  by_cases hb : b = 0 <;> by_cases hc : c = 0 <;> simp [hb, hc]
 ·
  by_cases h4 : a = 4
  ·
   subst h4
   by_cases hb : 0 ≤ b ∧ b ≤ i - 1 <;> by_cases hc : 0 ≤ c ∧ c ≤ i - 1 <;> simp [hb, hc]
  ·
   by_cases h5 : a = 5
   ·
    subst h5
    by_cases hb : 0 ≤ b ∧ b ≤ i - 1 <;> by_cases hc : 0 ≤ c ∧ c ≤ i - 1 <;> simp [hb, hc]
   ·
    by_cases h6 : a = 6
    ·
     subst h6
     by_cases hb : 0 ≤ b ∧ b ≤ i - 1 <;> by_cases hc : 0 ≤ c ∧ c ≤ i - 1 <;> simp [hb, hc]
    ·
     by_cases h7 : a = 7
     ·
      subst h7
      by_cases hb : 0 ≤ b ∧ b ≤ i - 1 <;> by_cases hc : 0 ≤ c ∧ c ≤ i - 1 <;> simp [hb, hc]
     ·
      have n4 : ¬ (4 ≤ a ∧ a ≤ 7) := by omega
      by_cases h8 : a = 8
      ·
       subst h8
       by_cases hb : 0 ≤ b ∧ b ≤ i - 1 <;> by_cases hc : c = 0 <;> simp [hb, hc]
      ·
       by_cases hk : 1 ≤ a ∧ a ≤ 8
       ·
        by_cases hb : b = 0 <;> by_cases hc : c = 0 <;> simp [h3, h4, h5, h6, h7, h8, n4, hk, hb, hc]
       ·
        simp [h3, h4, h5, h6, h7, h8, n4, hk]
def cnt (a : Int) : List S115 → Int
 | [] => 0
 | x :: xs => (if x.f0 = a then 1 else 0) + cnt a xs
theorem cnt_bd (a : Int) (l : List S115) : 0 ≤ cnt a l ∧ cnt a l ≤ l.length := by
 induction l with
 | nil => simp [cnt]
 | cons x xs ih =>
  simp only [cnt, List.length_cons]
  by_cases h : x.f0 = a
  ·
   rw [if_pos h]; omega
  ·
   rw [if_neg h]; omega
theorem count_l0 (l : List S115) (hl : l.length ≤ 1048576) (a : Int) (d : Nat) : ∀ (k i : Nat) (c : Int), i + d = l.length → d < k → 0 ≤ c → c ≤ i →
  spec_l11Count.l0 k a c i l = some (c + cnt a (l.drop i)) ∧ impl_Circuit_countOf.l0 k a c l (l.length : Int) i = some (c + cnt a (l.drop i)) := by
 induction d with
 | zero =>
  intro k i c hi hk h0 h1
  obtain ⟨k, rfl⟩ : ∃ m, k = m + 1 := ⟨k - 1, (by omega)⟩
  simp only [spec_l11Count.l0, impl_Circuit_countOf.l0]
  rw [if_neg (by omega), if_neg (by omega), List.drop_eq_nil_of_le (by omega)]
  simp [cnt]
 | succ d ih =>
  intro k i c hi hk h0 h1
  obtain ⟨k, rfl⟩ : ∃ m, k = m + 1 := ⟨k - 1, (by omega)⟩
  have hlt : i < l.length := by omega
  simp only [spec_l11Count.l0, impl_Circuit_countOf.l0, spec_l01Bit.f]
  rw [if_pos (show (i : Int) < (l.length : Int) by omega), if_pos (show 0 ≤ (i : Int) by omega), rdGateS hlt, if_pos (show (i : Int) < (l.length : Int) by omega), if_pos (show 0 ≤ (i : Int) by omega), if_pos (show (i : Int) < (l.length : Int) by omega), List.drop_eq_getElem_cons hlt,
   w64 (n := (i : Int) + 1) (by omega) (by omega), show (i : Int) + 1 = ((i + 1 : Nat) : Int) by omega]
  simp only [cnt]
  by_cases h : (l[i]).f0 = a
  ·
   rw [if_pos (beq_iff_eq.2 h), if_pos h, if_pos h]
   simp only [bS]
   rw [w64 (by omega) (by omega)]
   have e := ih k (i + 1) (c + 1) (by omega) (by omega) (by omega) (by omega)
   rw [Int.add_assoc] at e
   exact e
  ·
   rw [if_neg (fun e => h (beq_iff_eq.1 e)), if_neg h, if_neg h]
   simp only [bS]
   rw [w64 (by omega) (by omega), Int.add_zero, Int.zero_add]
   exact ih k (i + 1) c (by omega) (by omega) (by omega) (by omega)
theorem l11Count_eq {l : List S115} (hl : l.length ≤ 1048576) (a : Int) {k : Nat} (hk : l.length < k) : spec_l11Count.f k l a = some (cnt a l) := by
 have := (count_l0 l hl a l.length k 0 0 (by omega) hk (by omega) (by omega)).1
 rw [Int.natCast_zero, List.drop_zero, Int.zero_add] at this
 unfold spec_l11Count.f; exact this
theorem countOf_eq {l : List S115} (hl : l.length ≤ 1048576) (a : Int) {k : Nat} (hk : l.length < k) : impl_Circuit_countOf.f k l a = some (cnt a l) := by
 have := (count_l0 l hl a l.length k 0 0 (by omega) hk (by omega) (by omega)).2
 rw [Int.natCast_zero, List.drop_zero, Int.zero_add] at this
 unfold impl_Circuit_countOf.f; exact this
def gatesB : Int → List S115 → Bool
 | _, [] => true
 | i, x :: xs => gateB x i && gatesB (i + 1) xs
def circB (l : List S115) : Bool := decide (1 ≤ (l.length : Int) ∧ (l.length : Int) ≤ 15) && (gatesB 0 l && decide (cnt 2 l ≤ 7))
theorem circuit_l0 (l : List S115) (hl : l.length ≤ 1048576) (d : Nat) : ∀ (k i : Nat), i + d = l.length → d + l.length + 1 < k →
  spec_CircuitOK.l0 k i l = some (gatesB i (l.drop i) && decide (cnt 2 l ≤ 7)) ∧ impl_CircuitOK.l0 k l (l.length : Int) i l = some (gatesB i (l.drop i) && decide (cnt 2 l ≤ 7)) := by
 induction d with
 | zero =>
  intro k i hi hk
  obtain ⟨k, rfl⟩ : ∃ m, k = m + 1 := ⟨k - 1, (by omega)⟩
  simp only [spec_CircuitOK.l0, impl_CircuitOK.l0]
  rw [if_neg (by omega), if_neg (by omega), l11Count_eq hl 2 (by omega), countOf_eq hl 2 (by omega), List.drop_eq_nil_of_le (by omega)]
  simp only [bS, gatesB, Bool.true_and]
  exact ⟨trivial, trivial⟩
 | succ d ih =>
  intro k i hi hk
  obtain ⟨k, rfl⟩ : ∃ m, k = m + 1 := ⟨k - 1, (by omega)⟩
  have hlt : i < l.length := by omega
  have q1 := l11Gate_eq l[i] (i := (i : Int)) (by omega) (by omega) (k := k) (by omega)
  have q2 := isGate_eq l[i] (i := (i : Int)) (by omega) (by omega) (k := k) (by omega)
  simp only [spec_CircuitOK.l0, impl_CircuitOK.l0]
  rw [if_pos (show (i : Int) < (l.length : Int) by omega), if_pos (show 0 ≤ (i : Int) by omega), rdGateS hlt, if_pos (show (i : Int) < (l.length : Int) by omega), if_pos (show 0 ≤ (i : Int) by omega), if_pos (show (i : Int) < (l.length : Int) by omega), q1, q2, List.drop_eq_getElem_cons hlt,
   w64 (n := (i : Int) + 1) (by omega) (by omega), show (i : Int) + 1 = ((i + 1 : Nat) : Int) by omega]
  simp only [bS, gatesB]
  by_cases h : gateB l[i] (i : Int) = true
  ·
   rw [if_pos h, if_pos h, h, Bool.true_and, show (i : Int) + 1 = ((i + 1 : Nat) : Int) by omega]
   exact ih k (i + 1) (by omega) (by omega)
  ·
   rw [if_neg h, if_neg h, Bool.eq_false_iff.mpr h]
   exact ⟨rfl, rfl⟩
theorem spec_CircuitOK_eq {l : List S115} (hl : l.length ≤ 1048576) {k : Nat} (hk : 2 * l.length + 5 < k) : spec_CircuitOK.f k l = some (circB l) := by
 unfold spec_CircuitOK.f circB
 rw [spec_l01In_eq]
 simp only [bS]
 by_cases h : 1 ≤ (l.length : Int) ∧ (l.length : Int) ≤ 15
 ·
  have e := (circuit_l0 l hl l.length k 0 (by omega) (by omega)).1
  rw [Int.natCast_zero, List.drop_zero] at e
  rw [decide_eq_true h, if_pos rfl, e, Bool.true_and]
 ·
  rw [decide_eq_false h]; rfl
theorem impl_CircuitOK_eq {l : List S115} (hl : l.length ≤ 1048576) {k : Nat} (hk : 2 * l.length + 5 < k) : impl_CircuitOK.f k l = some (circB l) := by
 unfold impl_CircuitOK.f circB
 rw [impl_in_eq]
 simp only [bS]
 by_cases h : 1 ≤ (l.length : Int) ∧ (l.length : Int) ≤ 15
 ·
  have e := (circuit_l0 l hl l.length k 0 (by omega) (by omega)).2
  rw [Int.natCast_zero, List.drop_zero] at e
  rw [decide_eq_true h, if_pos rfl, e, Bool.true_and]
 ·
  rw [decide_eq_false h]; rfl
end Go.Proofs.Ytekijbcblajjbaa.PT
end
section
/- The equality weight, at a point and as a table: both sides walk the same numbers. -/
namespace Go.Proofs.Ytekijbcblajjbaa.PT
open Go.RowKit Go.Proofs.YtekijbcblajjbaaW.PrintWords Go.Proofs.YtekijbcblajjbaaW.PrintLast Go.Proofs.YtekijbcblajjbaaW.PrintMore
set_option linter.unusedVariables false
set_option linter.unusedSimpArgs false
/-! the table -/
end Go.Proofs.Ytekijbcblajjbaa.PT
end
section
/- Entries and matrices: the laws' helpers, and what both sides answer. -/
namespace Go.Proofs.Ytekijbcblajjbaa.PT
open Go.RowKit Go.Proofs.YtekijbcblajjbaaW.PrintWords Go.Proofs.YtekijbcblajjbaaW.PrintLast Go.Proofs.YtekijbcblajjbaaW.PrintMore
set_option linter.unusedVariables false
set_option linter.unusedSimpArgs false
theorem rdI {l : List Int} {i : Nat} (h : i < l.length) : rd l (i : Int) = l[i] := by
 show l.getD (i : Int).toNat 0 = l[i]
 rw [Int.toNat_natCast, getD_at h]
theorem toIntS_l0 (l : List Int) (hl : l.length ≤ 1048576) (d : Nat) : ∀ (k i : Nat), i + d = l.length → d < k → laws_toIntS.l0 k l (l.take i ++ List.replicate d 0) i = some l := by
 induction d with
 | zero =>
  intro k i hi hk
  obtain ⟨k, rfl⟩ : ∃ m, k = m + 1 := ⟨k - 1, (by omega)⟩
  simp only [laws_toIntS.l0]; rw [if_neg (by omega), List.take_of_length_le (by omega)]; simp
 | succ d ih =>
  intro k i hi hk
  obtain ⟨k, rfl⟩ : ∃ m, k = m + 1 := ⟨k - 1, (by omega)⟩
  have hlt : i < l.length := by omega
  have hlen : (l.take i).length = i := by rw [List.length_take]; omega
  simp only [laws_toIntS.l0]
  rw [if_pos (by omega), if_pos (by omega), rdI hlt, if_pos (by rw [List.length_append, hlen, List.length_replicate]; omega), Int.toNat_natCast, List.replicate_succ]
  have hs := fun y => set_mid (l.take i) (List.replicate d 0) 0 y
  rw [hlen] at hs
  rw [hs, w64 (by omega) (by omega), show (i : Int) + 1 = ((i + 1 : Nat) : Int) by omega]
  have := ih k (i + 1) (by omega) (by omega)
  rw [List.take_succ_eq_append_getElem hlt, List.append_assoc] at this
  exact this
theorem toIntS_eq {l : List Int} (hl : l.length ≤ 1048576) {k : Nat} (hk : l.length < k) : laws_toIntS.f k l = some l := by
 unfold laws_toIntS.f
 rw [if_pos (by omega), if_pos (by omega)]
 have := toIntS_l0 l hl l.length k 0 (by omega) hk
 rw [Int.natCast_zero, List.take_zero] at this
 rw [Int.toNat_natCast]
 exact this
theorem eqIntS_l0 (a : List Int) (hl : a.length ≤ 1048576) (d : Nat) : ∀ (k i : Nat), i + d = a.length → d < k → laws_eqIntS.l0 k a a i = some true := by
 induction d with
 | zero =>
  intro k i hi hk
  obtain ⟨k, rfl⟩ : ∃ m, k = m + 1 := ⟨k - 1, (by omega)⟩
  simp only [laws_eqIntS.l0]; rw [if_neg (by omega)]
 | succ d ih =>
  intro k i hi hk
  obtain ⟨k, rfl⟩ : ∃ m, k = m + 1 := ⟨k - 1, (by omega)⟩
  simp only [laws_eqIntS.l0]
  rw [if_pos (show (i : Int) < (a.length : Int) by omega), if_pos (show 0 ≤ (i : Int) by omega), if_pos (show (i : Int) < (a.length : Int) by omega), if_true, w64 (by omega) (by omega), show (i : Int) + 1 = ((i + 1 : Nat) : Int) by omega]
  exact ih k (i + 1) (by omega) (by omega)
theorem eqIntS_refl {a : List Int} (hl : a.length ≤ 1048576) {k : Nat} (hk : a.length < k) : laws_eqIntS.f k a a = some true := by
 unfold laws_eqIntS.f; rw [if_pos rfl]; exact eqIntS_l0 a hl a.length k 0 (by omega) hk
def markedI : Nat → Int → List Int
 | 0, _ => []
 | n + 1, k => k :: markedI n (k + 1)
theorem markedI_length (n : Nat) : ∀ k, (markedI n k).length = n := by
 induction n with
 | zero => intro k; rfl
 | succ n ih => intro k; simp [markedI, ih]
theorem markedI_snoc (n : Nat) : ∀ k : Int, markedI (n + 1) k = markedI n k ++ [k + n] := by
 induction n with
 | zero => intro k; simp [markedI]
 | succ n ih =>
  intro k
  rw [markedI, ih, markedI, List.cons_append]
  have e : k + 1 + (n : Int) = k + ((n : Int) + 1) := by omega
  rw [Int.natCast_succ, e]
theorem markedI_get (n : Nat) : ∀ (k : Int) (i : Nat) (h : i < (markedI n k).length), (markedI n k)[i] = k + i := by
 induction n with
 | zero => intro k i h; simp [markedI] at h
 | succ n ih =>
  intro k i h
  cases i with
  | zero => simp [markedI]
  | succ i =>
   simp only [markedI, List.getElem_cons_succ]
   rw [ih]; omega
theorem markIntS_l0 (a : List Int) (k0 : Int) (hk0 : 0 ≤ k0) (hk1 : k0 ≤ 4611686018427387904) (hl : a.length ≤ 1048576) (d : Nat) : ∀ (k i : Nat), i + d = a.length → d < k →
  laws_markIntS.l0 k (markedI i k0 ++ a.drop i) (k0 + i) i = some (k0 + a.length, markedI a.length k0) := by
 induction d with
 | zero =>
  intro k i hi hk
  obtain ⟨k, rfl⟩ : ∃ m, k = m + 1 := ⟨k - 1, (by omega)⟩
  have : i = a.length := by omega
  subst this
  simp only [laws_markIntS.l0]
  rw [if_neg (by rw [List.length_append, markedI_length, List.length_drop]; omega)]; simp
 | succ d ih =>
  intro k i hi hk
  obtain ⟨k, rfl⟩ : ∃ m, k = m + 1 := ⟨k - 1, (by omega)⟩
  have hlt : i < a.length := by omega
  simp only [laws_markIntS.l0]
  rw [if_pos (by rw [List.length_append, markedI_length, List.length_drop]; omega), if_pos (by omega), Int.toNat_natCast, List.drop_eq_getElem_cons hlt]
  have hs := set_mid (markedI i k0) (a.drop (i + 1)) a[i] (k0 + i)
  rw [markedI_length] at hs
  rw [hs, w64 (n := k0 + (i : Int) + 1) (by omega) (by omega), w64 (by omega) (by omega), show (i : Int) + 1 = ((i + 1 : Nat) : Int) by omega, show k0 + (i : Int) + 1 = k0 + ((i + 1 : Nat) : Int) by omega]
  have := ih k (i + 1) (by omega) (by omega)
  rw [markedI_snoc, List.append_assoc] at this
  exact this
theorem markIntS_eq {a : List Int} {k0 : Int} (hk0 : 0 ≤ k0) (hk1 : k0 ≤ 4611686018427387904) (hl : a.length ≤ 1048576) {k : Nat} (hk : a.length < k) : laws_markIntS.f k a k0 = some (k0 + a.length, markedI a.length k0) := by
 have := markIntS_l0 a k0 hk0 hk1 hl a.length k 0 (by omega) hk
 unfold laws_markIntS.f
 simpa [markedI] using this
theorem heldIntS_l0 (n : Nat) (k0 : Int) (hk0 : 0 ≤ k0) (hk1 : k0 ≤ 4611686018427387904) (hl : n ≤ 1048576) (d : Nat) : ∀ (k i : Nat), i + d = n → d < k → laws_heldIntS.l0 k (markedI n k0) (k0 + i) i = some (k0 + n) := by
 induction d with
 | zero =>
  intro k i hi hk
  obtain ⟨k, rfl⟩ : ∃ m, k = m + 1 := ⟨k - 1, (by omega)⟩
  have : i = n := by omega
  subst this
  simp only [laws_heldIntS.l0]
  rw [if_neg (by rw [markedI_length]; omega)]
 | succ d ih =>
  intro k i hi hk
  obtain ⟨k, rfl⟩ : ∃ m, k = m + 1 := ⟨k - 1, (by omega)⟩
  have hlt : i < (markedI n k0).length := by rw [markedI_length]; omega
  simp only [laws_heldIntS.l0]
  rw [if_pos (by rw [markedI_length]; omega), if_pos (by omega), rdI hlt, markedI_get, if_pos rfl, w64 (by omega) (by omega), w64 (by omega) (by omega), show (i : Int) + 1 = ((i + 1 : Nat) : Int) by omega, show k0 + (i : Int) + 1 = k0 + ((i + 1 : Nat) : Int) by omega]
  exact ih k (i + 1) (by omega) (by omega)
theorem heldIntS_eq {n : Nat} {k0 : Int} (hk0 : 0 ≤ k0) (hk1 : k0 ≤ 4611686018427387904) (hl : n ≤ 1048576) {k : Nat} (hk : n < k) : laws_heldIntS.f k (markedI n k0) k0 = some (k0 + n) := by
 have := heldIntS_l0 n k0 hk0 hk1 hl n k 0 (by omega) hk
 unfold laws_heldIntS.f
 simpa using this
/-! matrices -/
end Go.Proofs.Ytekijbcblajjbaa.PT
end
section
/- Tables turned in place, folded, and read at a point: both sides walk the same numbers. -/
namespace Go.Proofs.Ytekijbcblajjbaa.PT
open Go.RowKit Go.Proofs.YtekijbcblajjbaaW.PrintWords Go.Proofs.YtekijbcblajjbaaW.PrintLast Go.Proofs.YtekijbcblajjbaaW.PrintMore
set_option linter.unusedVariables false
set_option linter.unusedSimpArgs false
/-! a table turned in place -/
/-! a table folded -/
/-! a table at a point -/
end Go.Proofs.Ytekijbcblajjbaa.PT
end
section
/- Powers, inverses and the line: what the printed functions of chapter 2 come to. -/
namespace Go.Proofs.Ytekijbcblajjbaa.PT
open Go.RowKit Go.Proofs.YtekijbcblajjbaaW.PrintWords Go.Proofs.YtekijbcblajjbaaW.PrintLast Go.Proofs.YtekijbcblajjbaaW.PrintMore
set_option linter.unusedVariables false
set_option linter.unusedSimpArgs false
end Go.Proofs.Ytekijbcblajjbaa.PT
end
section
/- Words: their transform, its inverse, and a word folded: both sides walk the same numbers. -/
namespace Go.Proofs.Ytekijbcblajjbaa.PT
open Go.RowKit Go.Proofs.YtekijbcblajjbaaW.PrintWords Go.Proofs.YtekijbcblajjbaaW.PrintLast Go.Proofs.YtekijbcblajjbaaW.PrintMore
set_option linter.unusedVariables false
set_option linter.unusedSimpArgs false
/-! logarithms and roots -/
/-! a pair folded -/
/-! the transform -/
end Go.Proofs.Ytekijbcblajjbaa.PT
end
section
/- The field's order is a prime: powers, inverses and the greater field's laws. -/
namespace Go.Proofs.Ytekijbcblajjbaa.PT
open Go.RowKit Go.Proofs.YtekijbcblajjbaaW.PrintWords Go.Proofs.YtekijbcblajjbaaW.PrintLast Go.Proofs.YtekijbcblajjbaaW.PrintMore
set_option linter.unusedVariables false
set_option linter.unusedSimpArgs false
end Go.Proofs.Ytekijbcblajjbaa.PT
end
section
/- Matrices times numbers, and matrices at points: both sides walk the same numbers. -/
namespace Go.Proofs.Ytekijbcblajjbaa.PT
open Go.RowKit Go.Proofs.YtekijbcblajjbaaW.PrintWords Go.Proofs.YtekijbcblajjbaaW.PrintLast Go.Proofs.YtekijbcblajjbaaW.PrintMore
set_option linter.unusedVariables false
set_option linter.unusedSimpArgs false
def fieldsB (l : List Int) : Bool := l.all fun x => decide (inF x)
theorem are_fields_eq (l : List Int) : impl_are_int_FieldOK.f l = some (fieldsB l) := by
 unfold impl_are_int_FieldOK.f fieldsB
 congr 2; funext x; unfold impl_are_int_FieldOK.p; rw [impl_FieldOK_eq]; rfl
theorem fieldsB_iff {l : List Int} (h : fieldsB l = true) : ∀ x ∈ l, inF x := by
 intro x hx
 unfold fieldsB at h
 rw [List.all_eq_true] at h
 exact of_decide_eq_true (h x hx)
theorem l10Fields_l0 (l : List Int) (hl : l.length ≤ 1048576) (d : Nat) : ∀ (k i : Nat), i + d = l.length → d < k → spec_l10Fields.l0 k l i = some (fieldsB (l.drop i)) := by
 induction d with
 | zero =>
  intro k i hi hk
  obtain ⟨k, rfl⟩ : ∃ m, k = m + 1 := ⟨k - 1, (by omega)⟩
  simp only [spec_l10Fields.l0]; rw [if_neg (by omega), List.drop_eq_nil_of_le (by omega)]; rfl
 | succ d ih =>
  intro k i hi hk
  obtain ⟨k, rfl⟩ : ∃ m, k = m + 1 := ⟨k - 1, (by omega)⟩
  have hlt : i < l.length := by omega
  simp only [spec_l10Fields.l0]
  rw [if_pos (show (i : Int) < (l.length : Int) by omega), if_pos (show 0 ≤ (i : Int) by omega), rdI hlt, spec_FieldOK_eq, List.drop_eq_getElem_cons hlt, w64 (by omega) (by omega), show (i : Int) + 1 = ((i + 1 : Nat) : Int) by omega]
  simp only [bS, fieldsB, List.all_cons]
  by_cases h : inF l[i]
  ·
   rw [decide_eq_true h, if_pos rfl, Bool.true_and]; exact ih k (i + 1) (by omega) (by omega)
  ·
   rw [decide_eq_false h]; rfl
theorem l10Fields_eq {l : List Int} (hl : l.length ≤ 1048576) {k : Nat} (hk : l.length < k) : spec_l10Fields.f k l = some (fieldsB l) := by
 have e := l10Fields_l0 l hl l.length k 0 (by omega) hk
 rw [Int.natCast_zero, List.drop_zero] at e
 unfold spec_l10Fields.f; exact e
theorem inF_rd {l : List Int} (h : ∀ x ∈ l, inF x) {i : Int} (h0 : 0 ≤ i) (h1 : i < l.length) : inF (rd l i) := by
 show inF (l.getD i.toNat 0)
 rw [getD_at (show i.toNat < l.length by omega)]
 exact h _ (List.getElem_mem _)
/-! at points -/
end Go.Proofs.Ytekijbcblajjbaa.PT
end
section
/- Systems: both sides ask the same of a system and of numbers, and come to the same failed row. -/
namespace Go.Proofs.Ytekijbcblajjbaa.PT
open Go.RowKit Go.Proofs.YtekijbcblajjbaaW.PrintWords Go.Proofs.YtekijbcblajjbaaW.PrintLast Go.Proofs.YtekijbcblajjbaaW.PrintMore
set_option linter.unusedVariables false
set_option linter.unusedSimpArgs false
end Go.Proofs.Ytekijbcblajjbaa.PT
end
section
/- A circuit's run: the one side runs to the end and then asks, the other stops where something that must be is not. -/
namespace Go.Proofs.Ytekijbcblajjbaa.PT
open Go.RowKit Go.Proofs.YtekijbcblajjbaaW.PrintWords Go.Proofs.YtekijbcblajjbaaW.PrintLast Go.Proofs.YtekijbcblajjbaaW.PrintMore
set_option linter.unusedVariables false
set_option linter.unusedSimpArgs false
/-- What must be of a gate is. -/
def fitB (R : List Int) (g : S115) : Bool := if g.f0 = 7 then decide (rd R g.f1 = rd R g.f2) else if g.f0 = 8 then decide (¬ rd R g.f1 > 1) else true
def fitsL (R : List Int) : List S115 → Bool
 | [] => true
 | g :: gs => fitB R g && fitsL R gs
theorem rd_app {o S : List Int} {a : Int} (h0 : 0 ≤ a) (h1 : a < o.length) : rd (o ++ S) a = rd o a := by
 show (o ++ S).getD a.toNat 0 = o.getD a.toNat 0
 rw [List.getD_eq_getElem?_getD, List.getD_eq_getElem?_getD, List.getElem?_append_left (by omega)]
theorem inF_snoc {o : List Int} (h : ∀ y ∈ o, inF y) {v : Int} (hv : inF v) : ∀ y ∈ o ++ [v], inF y := by
 intro y hy
 rcases List.mem_append.mp hy with h1 | h1
 ·
  exact h y h1
 ·
  rw [List.mem_singleton.mp h1]; exact hv
theorem rd_drop (l : List Int) (p : Nat) : rd (l.drop p) 0 = rd l (p : Int) := by
 show (l.drop p).getD 0 0 = l.getD (p : Int).toNat 0
 rw [List.getD_eq_getElem?_getD, List.getD_eq_getElem?_getD, List.getElem?_drop, Int.toNat_natCast, Nat.add_zero]
def GF (g : S115) (i : Int) : Prop := (1 ≤ g.f0 ∧ g.f0 ≤ 8) ∧ (4 ≤ g.f0 ∧ g.f0 ≤ 7 → (0 ≤ g.f1 ∧ g.f1 ≤ i - 1) ∧ (0 ≤ g.f2 ∧ g.f2 ≤ i - 1)) ∧ (g.f0 = 8 → 0 ≤ g.f1 ∧ g.f1 ≤ i - 1) ∧ (g.f0 = 3 → inF g.f3)
theorem GF.op {g : S115} {i : Int} (h : GF g i) : 1 ≤ g.f0 ∧ g.f0 ≤ 8 := by unfold GF at h; exact h.1
theorem GF.mid {g : S115} {i : Int} (h : GF g i) (h4 : 4 ≤ g.f0 ∧ g.f0 ≤ 7) : (0 ≤ g.f1 ∧ g.f1 ≤ i - 1) ∧ (0 ≤ g.f2 ∧ g.f2 ≤ i - 1) := by unfold GF at h; exact h.2.1 h4
theorem GF.bit {g : S115} {i : Int} (h : GF g i) (h8 : g.f0 = 8) : 0 ≤ g.f1 ∧ g.f1 ≤ i - 1 := by unfold GF at h; exact h.2.2.1 h8
theorem GF.con {g : S115} {i : Int} (h : GF g i) (h3 : g.f0 = 3) : inF g.f3 := by unfold GF at h; exact h.2.2.2 h3
theorem gate_facts {g : S115} {i : Int} (h : gateB g i = true) : GF g i := by
 unfold GF
 unfold gateB at h
 rw [Bool.and_eq_true, decide_eq_true_eq] at h
 obtain ⟨h1, h2⟩ := h
 refine ⟨h1, fun h4 => ?_, fun h8 => ?_, fun h3 => ?_⟩
 ·
  rw [if_pos h4] at h2
  simp only [Bool.and_eq_true, decide_eq_true_eq] at h2
  exact ⟨h2.1.1, h2.1.2⟩
 ·
  rw [if_neg (by omega), if_pos h8] at h2
  simp only [Bool.and_eq_true, decide_eq_true_eq] at h2
  exact h2.1.1
 ·
  rw [if_neg (by omega), if_neg (by omega), if_pos h3] at h2
  simp only [Bool.and_eq_true, decide_eq_true_eq] at h2
  exact h2.2
def RunsTo (gs : List S115) (us vs : List Int) (i p q : Nat) (o R : List Int) (b : Nat) : Prop :=
 ∀ k, b < k → spec_l11Run.l0 k us vs o p q i gs = some R ∧ impl_Circuit_run.l0 k (us.drop p) (vs.drop q) o gs (gs.length : Int) i = some (if fitsL R (gs.drop i) = true then (R, true) else ([], false))
set_option maxHeartbeats 1000000 in
theorem run_l0 (gs : List S115) (hgl : gs.length ≤ 15) (us vs : List Int) (hu : ∀ y ∈ us, inF y) (hv : ∀ y ∈ vs, inF y) (hul : us.length ≤ 4096) (hvl : vs.length ≤ 4096) (d : Nat) : ∀ (i p q : Nat) (o : List Int), i + d = gs.length → o.length = i → (∀ y ∈ o, inF y) →
  gatesB (i : Int) (gs.drop i) = true → cnt 2 (gs.drop i) = ((us.drop p).length : Int) → cnt 1 (gs.drop i) = ((vs.drop q).length : Int) → p ≤ us.length → q ≤ vs.length →
  ∃ R S, R = o ++ S ∧ R.length = gs.length ∧ (∀ y ∈ R, inF y) ∧ RunsTo gs us vs i p q o R (2 * d) := by
 induction d with
 | zero =>
  intro i p q o hi ho hok hg hc2 hc1 hp hq
  refine ⟨o, [], (List.append_nil o).symm, (by omega), hok, fun k hk => ?_⟩
  obtain ⟨k, rfl⟩ : ∃ m, k = m + 1 := ⟨k - 1, (by omega)⟩
  simp only [spec_l11Run.l0, impl_Circuit_run.l0]
  rw [if_neg (by omega), if_neg (by omega), List.drop_eq_nil_of_le (by omega)]
  exact ⟨rfl, rfl⟩
 | succ d ih =>
  intro i p q o hi ho hok hg hc2 hc1 hp hq
  have hlt : i < gs.length := by omega
  rw [List.drop_eq_getElem_cons hlt] at hg hc2 hc1
  rw [gatesB, Bool.and_eq_true] at hg
  obtain ⟨hg1, hg2⟩ := hg
  rw [show (i : Int) + 1 = ((i + 1 : Nat) : Int) by omega] at hg2
  rw [cnt] at hc2 hc1
  have K2 := am_ hc2
  have K1 := am_ hc1
  clear hc2 hc1
  have gf := gate_facts hg1
  have f1 := gf.op
  have hrd : rd_T115 gs (i : Int) = gs[i] := rdGateS hlt
  have b2 := am_ (cnt_bd 2 (gs.drop (i + 1)))
  have b1 := am_ (cnt_bd 1 (gs.drop (i + 1)))
  -- the common step: the value v, the two rows behind it
  have step : ∀ (v : Int) (p' q' : Nat), inF v → cnt 2 (gs.drop (i + 1)) = ((us.drop p').length : Int) → cnt 1 (gs.drop (i + 1)) = ((vs.drop q').length : Int) → p' ≤ us.length → q' ≤ vs.length →
    ∃ R S, R = o ++ (v :: S) ∧ R.length = gs.length ∧ (∀ y ∈ R, inF y) ∧ RunsTo gs us vs (i + 1) p' q' (o ++ [v]) R (2 * d) := by
   intro v p' q' hvF e2 e1 hp' hq'
   obtain ⟨R, S, hR, hl, hF, hk⟩ := ih (i + 1) p' q' (o ++ [v]) (by omega) (by simp; omega) (inF_snoc hok hvF) hg2 e2 e1 hp' hq'
   exact ⟨R, S, (by rw [hR, List.append_assoc]; rfl), hl, hF, hk⟩
  have fits : ∀ R : List Int, fitsL R (gs.drop i) = (fitB R gs[i] && fitsL R (gs.drop (i + 1))) := by
   intro R; rw [List.drop_eq_getElem_cons hlt, fitsL]
  have wi : wrap64 ((i : Int) + 1) = ((i + 1 : Nat) : Int) := by rw [w64 (by omega) (by omega)]; omega
  have h15 : o.length ≤ 15 := by rw [ho]; exact Nat.le_trans (Nat.le_of_lt hlt) hgl
  have lim := am_ (show o.length < 17592186044416 from Nat.lt_of_le_of_lt h15 (by decide))
  have ci : (i : Int) < (gs.length : Int) := Int.ofNat_lt.mpr hlt
  have c0' : 0 ≤ (i : Int) := Int.natCast_nonneg i
  by_cases o1 : gs[i].f0 = 1
  ·
   have hc1 := K1.out
   rw [if_pos o1, List.length_drop] at hc1
   have hc2 := K2.out
   rw [if_neg (by rw [o1]; decide), Int.zero_add] at hc2
   have g1 := b1.out.1
   have hql : q < vs.length := by omega
   obtain ⟨R, S, hR, hl, hF, hk⟩ := step (rd vs (q : Int)) p (q + 1) (inF_rd hv (by omega) (by omega)) hc2 (by rw [List.length_drop]; omega) hp (by omega)
   clear hc1 hc2 g1
   refine ⟨R, _, hR, hl, hF, fun k hk2 => ?_⟩
   obtain ⟨k, rfl⟩ : ∃ m, k = m + 1 := ⟨k - 1, (by omega)⟩
   obtain ⟨e1, e2⟩ := hk k (by omega)
   have q0 : 0 ≤ (q : Int) := Int.natCast_nonneg q
   have q1 : (q : Int) < (vs.length : Int) := Int.ofNat_lt.mpr hql
   have d0 : 0 < ((vs.drop q).length : Int) := by rw [List.length_drop]; omega
   have d1 : 1 ≤ ((vs.drop q).length : Int) := d0
   have wq : wrap64 ((q : Int) + 1) = ((q + 1 : Nat) : Int) := by rw [w64 (by omega) (by omega)]; omega
   simp only [spec_l11Run.l0, impl_Circuit_run.l0]
   rw [if_pos ci, if_pos c0', hrd, if_pos o1, if_pos q0, if_pos q1, if_pos lim.out, wq, wi, e1, if_pos ci, if_pos c0', if_pos ci, if_pos o1, if_pos d0, if_pos d1, if_pos lim.out, List.drop_drop, rd_drop, e2, fits]
   have hfb : fitB R gs[i] = true := by unfold fitB; rw [if_neg (by omega), if_neg (by omega)]
   rw [hfb, Bool.true_and]
   exact ⟨rfl, rfl⟩
  by_cases o2 : gs[i].f0 = 2
  ·
   have hc1 := K1.out
   rw [if_neg o1, Int.zero_add] at hc1
   have hc2 := K2.out
   rw [if_pos o2, List.length_drop] at hc2
   have g2 := b2.out.1
   have hpl : p < us.length := by omega
   obtain ⟨R, S, hR, hl, hF, hk⟩ := step (rd us (p : Int)) (p + 1) q (inF_rd hu (by omega) (by omega)) (by rw [List.length_drop]; omega) hc1 (by omega) hq
   clear hc1 hc2 g2
   refine ⟨R, _, hR, hl, hF, fun k hk2 => ?_⟩
   obtain ⟨k, rfl⟩ : ∃ m, k = m + 1 := ⟨k - 1, (by omega)⟩
   obtain ⟨e1, e2⟩ := hk k (by omega)
   have q0 : 0 ≤ (p : Int) := Int.natCast_nonneg p
   have q1 : (p : Int) < (us.length : Int) := Int.ofNat_lt.mpr hpl
   have d0 : 0 < ((us.drop p).length : Int) := by rw [List.length_drop]; omega
   have d1 : 1 ≤ ((us.drop p).length : Int) := d0
   have wp : wrap64 ((p : Int) + 1) = ((p + 1 : Nat) : Int) := by rw [w64 (by omega) (by omega)]; omega
   simp only [spec_l11Run.l0, impl_Circuit_run.l0]
   rw [if_pos ci, if_pos c0', hrd, if_neg o1, if_pos o2, if_pos q0, if_pos q1, if_pos lim.out, wp, wi, e1, if_pos ci, if_pos c0', if_pos ci, if_neg o1, if_pos o2, if_pos d0, if_pos d1, if_pos lim.out, List.drop_drop, rd_drop, e2, fits]
   have hfb : fitB R gs[i] = true := by unfold fitB; rw [if_neg (by omega), if_neg (by omega)]
   rw [hfb, Bool.true_and]
   exact ⟨rfl, rfl⟩
  have cn2 : Aside0 (cnt 2 (gs.drop (i + 1)) = ((us.drop p).length : Int)) := ⟨(by have h := K2.out; rw [if_neg o2, Int.zero_add] at h; exact h)⟩
  have cn1 : Aside0 (cnt 1 (gs.drop (i + 1)) = ((vs.drop q).length : Int)) := ⟨(by have h := K1.out; rw [if_neg o1, Int.zero_add] at h; exact h)⟩
  by_cases o3 : gs[i].f0 = 3
  ·
   obtain ⟨R, S, hR, hl, hF, hk⟩ := step gs[i].f3 p q (gf.con o3) cn2.out cn1.out hp hq
   refine ⟨R, _, hR, hl, hF, fun k hk2 => ?_⟩
   obtain ⟨k, rfl⟩ : ∃ m, k = m + 1 := ⟨k - 1, (by omega)⟩
   obtain ⟨e1, _⟩ := hk k (by omega)
   simp only [spec_l11Run.l0, impl_Circuit_run.l0]
   rw [if_pos ci, if_pos c0', hrd, if_neg o1, if_neg o2, if_pos o3, if_pos lim.out, wi, e1, if_pos ci, if_pos c0', if_pos ci, if_neg o1, if_neg o2, if_neg (show ¬ gs[i].f0 = 4 by rw [o3]; decide), if_neg (show ¬ gs[i].f0 = 5 by rw [o3]; decide), if_neg (show ¬ gs[i].f0 = 6 by rw [o3]; decide), if_neg (show ¬ gs[i].f0 = 7 by rw [o3]; decide)]
   have e8 : (gs[i].f0 == 8) = false := by rw [o3]; decide
   obtain ⟨k, rfl⟩ : ∃ m, k = m + 1 := ⟨k - 1, (by omega)⟩
   obtain ⟨_, e2⟩ := hk k (by omega)
   rw [e8]
   simp only [impl_Circuit_run.j1, Bool.false_eq_true, if_false]
   rw [if_pos lim.out, wi, e2, fits]
   have hfb : fitB R gs[i] = true := by unfold fitB; rw [if_neg (by omega), if_neg (by omega)]
   rw [hfb, Bool.true_and]
   exact ⟨trivial, rfl⟩
  by_cases o46 : 4 ≤ gs[i].f0 ∧ gs[i].f0 ≤ 6
  ·
   obtain ⟨⟨a0, a1⟩, ⟨c0, c1⟩⟩ := gf.mid ⟨o46.1, (by omega)⟩
   have a2 : gs[i].f1 < (o.length : Int) := by rw [ho]; omega
   have c2 : gs[i].f2 < (o.length : Int) := by rw [ho]; omega
   have ga := inF_rd hok (i := gs[i].f1) a0 (by omega)
   have gc := inF_rd hok (i := gs[i].f2) c0 (by omega)
   have hfb : ∀ R, fitB R gs[i] = true := by intro R; unfold fitB; rw [if_neg (by omega), if_neg (by omega)]
   rcases (show gs[i].f0 = 4 ∨ gs[i].f0 = 5 ∨ gs[i].f0 = 6 by omega) with o4 | o5 | o6
   ·
    obtain ⟨R, S, hR, hl, hF, hk⟩ := step (fadd (rd o gs[i].f1) (rd o gs[i].f2)) p q (inF_add _ _) cn2.out cn1.out hp hq
    refine ⟨R, _, hR, hl, hF, fun k hk2 => ?_⟩
    obtain ⟨k, rfl⟩ : ∃ m, k = m + 1 := ⟨k - 1, (by omega)⟩
    obtain ⟨e1, e2⟩ := hk k (by omega)
    simp only [spec_l11Run.l0, impl_Circuit_run.l0]
    rw [if_pos ci, if_pos c0', hrd, if_neg o1, if_neg o2, if_neg o3, if_pos o4, if_pos a0, if_pos a2, if_pos c0, if_pos c2, spec_l01Add_eq ga gc]
    simp only [bS]
    rw [if_pos lim.out, wi, e1, if_pos ci, if_pos c0', if_pos ci, if_neg o1, if_neg o2, if_pos o4, if_pos a0, if_pos a2, if_pos c0, if_pos c2, impl_add_eq ga gc]
    simp only [bS]
    rw [if_pos lim.out, e2, fits, hfb, Bool.true_and]
    exact ⟨trivial, rfl⟩
   ·
    obtain ⟨R, S, hR, hl, hF, hk⟩ := step (fsub (rd o gs[i].f1) (rd o gs[i].f2)) p q (inF_sub _ _) cn2.out cn1.out hp hq
    refine ⟨R, _, hR, hl, hF, fun k hk2 => ?_⟩
    obtain ⟨k, rfl⟩ : ∃ m, k = m + 1 := ⟨k - 1, (by omega)⟩
    obtain ⟨e1, e2⟩ := hk k (by omega)
    have o4 : ¬ gs[i].f0 = 4 := by omega
    simp only [spec_l11Run.l0, impl_Circuit_run.l0]
    rw [if_pos ci, if_pos c0', hrd, if_neg o1, if_neg o2, if_neg o3, if_neg o4, if_pos o5, if_pos a0, if_pos a2, if_pos c0, if_pos c2, spec_l01Sub_eq ga gc]
    simp only [bS]
    rw [if_pos lim.out, wi, e1, if_pos ci, if_pos c0', if_pos ci, if_neg o1, if_neg o2, if_neg o4, if_pos o5, if_pos a0, if_pos a2, if_pos c0, if_pos c2, impl_sub_eq ga gc]
    simp only [bS]
    rw [if_pos lim.out, e2, fits, hfb, Bool.true_and]
    exact ⟨trivial, rfl⟩
   ·
    obtain ⟨R, S, hR, hl, hF, hk⟩ := step (fmul (rd o gs[i].f1) (rd o gs[i].f2)) p q (inF_mul _ _) cn2.out cn1.out hp hq
    refine ⟨R, _, hR, hl, hF, fun k hk2 => ?_⟩
    obtain ⟨k, rfl⟩ : ∃ m, k = m + 1 := ⟨k - 1, (by omega)⟩
    obtain ⟨e1, e2⟩ := hk k (by omega)
    have o4 : ¬ gs[i].f0 = 4 := by omega
    have o5 : ¬ gs[i].f0 = 5 := by omega
    simp only [spec_l11Run.l0, impl_Circuit_run.l0]
    rw [if_pos ci, if_pos c0', hrd, if_neg o1, if_neg o2, if_neg o3, if_neg o4, if_neg o5, if_pos o6, if_pos a0, if_pos a2, if_pos c0, if_pos c2, spec_l01Mul_eq ga gc]
    simp only [bS]
    rw [if_pos lim.out, wi, e1, if_pos ci, if_pos c0', if_pos ci, if_neg o1, if_neg o2, if_neg o4, if_neg o5, if_pos o6, if_pos a0, if_pos a2, if_pos c0, if_pos c2, impl_mul_eq ga gc]
    simp only [bS]
    rw [if_pos lim.out, e2, fits, hfb, Bool.true_and]
    exact ⟨trivial, rfl⟩
  have o4 : ¬ gs[i].f0 = 4 := by omega
  have o5 : ¬ gs[i].f0 = 5 := by omega
  have o6 : ¬ gs[i].f0 = 6 := by omega
  have a01 : 0 ≤ gs[i].f1 ∧ gs[i].f1 ≤ (i : Int) - 1 := by
   rcases (show gs[i].f0 = 7 ∨ gs[i].f0 = 8 by omega) with h | h
   ·
    exact (gf.mid ⟨(by omega), (by omega)⟩).1
   ·
    exact gf.bit h
  obtain ⟨a0, a1⟩ := a01
  have a2 : gs[i].f1 < (o.length : Int) := by rw [ho]; omega
  obtain ⟨R, S, hR, hl, hF, hk⟩ := step (rd o gs[i].f1) p q (inF_rd hok (i := gs[i].f1) a0 (by omega)) cn2.out cn1.out hp hq
  have r1 : rd R gs[i].f1 = rd o gs[i].f1 := by rw [hR]; exact rd_app a0 (by omega)
  refine ⟨R, _, hR, hl, hF, fun k hk2 => ?_⟩
  obtain ⟨k, rfl⟩ : ∃ m, k = m + 1 := ⟨k - 1, (by omega)⟩
  obtain ⟨e1, _⟩ := hk k (by omega)
  simp only [spec_l11Run.l0, impl_Circuit_run.l0]
  rw [if_pos ci, if_pos c0', hrd, if_neg o1, if_neg o2, if_neg o3, if_neg o4, if_neg o5, if_neg o6, if_pos a0, if_pos a2, if_pos lim.out, wi, e1, if_pos ci, if_pos c0', if_pos ci, if_neg o1, if_neg o2, if_neg o4, if_neg o5, if_neg o6]
  refine ⟨rfl, ?_⟩
  obtain ⟨k, rfl⟩ : ∃ m, k = m + 1 := ⟨k - 1, (by omega)⟩
  obtain ⟨_, e2⟩ := hk k (by omega)
  by_cases o7 : gs[i].f0 = 7
  ·
   obtain ⟨_, ⟨c0, c1⟩⟩ := gf.mid ⟨(by omega), (by omega)⟩
   have c2 : gs[i].f2 < (o.length : Int) := by rw [ho]; omega
   have r2 : rd R gs[i].f2 = rd o gs[i].f2 := by rw [hR]; exact rd_app c0 (by omega)
   have e7 : (gs[i].f0 == 7) = true := by rw [beq_iff_eq]; exact o7
   have o8 : ¬ gs[i].f0 = 8 := by omega
   rw [if_pos o7, e7]
   simp only [impl_Circuit_run.j1, if_true]
   rw [if_pos a0, if_pos a2, if_pos o7, if_pos c0, if_pos c2, fits]
   by_cases hq2 : rd o gs[i].f1 = rd o gs[i].f2
   ·
    have hfb : fitB R gs[i] = true := by unfold fitB; rw [if_pos o7, r1, r2, decide_eq_true hq2]
    rw [if_pos hq2, if_neg o8, if_pos lim.out, wi, e2, hfb, Bool.true_and]
   ·
    have hfb : fitB R gs[i] = false := by unfold fitB; rw [if_pos o7, r1, r2, decide_eq_false hq2]
    rw [if_neg hq2, hfb, Bool.false_and]; rfl
  ·
   have o8 : gs[i].f0 = 8 := by omega
   have e8 : (gs[i].f0 == 8) = true := by rw [beq_iff_eq]; exact o8
   rw [if_neg o7, e8]
   simp only [impl_Circuit_run.j1, if_true]
   rw [if_pos a0, if_pos a2, if_neg o7, if_pos o8, fits]
   by_cases hq2 : rd o gs[i].f1 > 1
   ·
    have hfb : fitB R gs[i] = false := by unfold fitB; rw [if_neg o7, if_pos o8, r1, decide_eq_false (fun h => h hq2)]
    rw [if_pos hq2, hfb, Bool.false_and]; rfl
   ·
    have hfb : fitB R gs[i] = true := by unfold fitB; rw [if_neg o7, if_pos o8, r1, decide_eq_true hq2]
    rw [if_neg hq2, if_pos lim.out, wi, e2, hfb, Bool.true_and]
theorem fits_l0 (gs : List S115) (hgl : gs.length ≤ 15) (R : List Int) (hR : R.length = gs.length) (d : Nat) : ∀ (k i : Nat), i + d = gs.length → d < k → gatesB (i : Int) (gs.drop i) = true →
  spec_l11Fits.l0 k R i gs = some (fitsL R (gs.drop i)) := by
 induction d with
 | zero =>
  intro k i hi hk hg
  obtain ⟨k, rfl⟩ : ∃ m, k = m + 1 := ⟨k - 1, (by omega)⟩
  simp only [spec_l11Fits.l0]
  rw [if_neg (by omega), List.drop_eq_nil_of_le (by omega)]; rfl
 | succ d ih =>
  intro k i hi hk hg
  obtain ⟨k, rfl⟩ : ∃ m, k = m + 1 := ⟨k - 1, (by omega)⟩
  have hlt : i < gs.length := by omega
  rw [List.drop_eq_getElem_cons hlt] at hg
  rw [gatesB, Bool.and_eq_true] at hg
  obtain ⟨hg1, hg2⟩ := hg
  rw [show (i : Int) + 1 = ((i + 1 : Nat) : Int) by omega] at hg2
  have gf := gate_facts hg1
  have f1 := gf.op
  have hrd : rd_T115 gs (i : Int) = gs[i] := rdGateS hlt
  have wi : wrap64 ((i : Int) + 1) = ((i + 1 : Nat) : Int) := by rw [w64 (by omega) (by omega)]; omega
  have e := ih k (i + 1) (by omega) (by omega) hg2
  rw [List.drop_eq_getElem_cons hlt, fitsL]
  simp only [spec_l11Fits.l0]
  rw [if_pos (by omega), if_pos (by omega), hrd, wi]
  by_cases o7 : gs[i].f0 = 7
  ·
   obtain ⟨⟨a0, a1⟩, ⟨c0, c1⟩⟩ := gf.mid ⟨(by omega), (by omega)⟩
   rw [if_pos o7, if_pos a0, if_pos (by omega), if_pos c0, if_pos (by omega)]
   by_cases hq : rd R gs[i].f1 = rd R gs[i].f2
   ·
    have hfb : fitB R gs[i] = true := by unfold fitB; rw [if_pos o7, decide_eq_true hq]
    rw [if_pos hq, if_neg (by omega), e, hfb, Bool.true_and]
   ·
    have hfb : fitB R gs[i] = false := by unfold fitB; rw [if_pos o7, decide_eq_false hq]
    rw [if_neg hq, hfb, Bool.false_and]
  ·
   rw [if_neg o7]
   by_cases o8 : gs[i].f0 = 8
   ·
    obtain ⟨a0, a1⟩ := gf.bit o8
    rw [if_pos o8, if_pos a0, if_pos (by omega)]
    by_cases hq : rd R gs[i].f1 > 1
    ·
     have hfb : fitB R gs[i] = false := by unfold fitB; rw [if_neg o7, if_pos o8, decide_eq_false (fun h => h hq)]
     rw [if_pos hq, hfb, Bool.false_and]
    ·
     have hfb : fitB R gs[i] = true := by unfold fitB; rw [if_neg o7, if_pos o8, decide_eq_true hq]
     rw [if_neg hq, e, hfb, Bool.true_and]
   ·
    have hfb : fitB R gs[i] = true := by unfold fitB; rw [if_neg o7, if_neg o8]
    rw [if_neg o8, e, hfb, Bool.true_and]
/-- The code of a circuit and what is handed in. -/
def runC (gs : List S115) (us vs : List Int) : Int :=
 if (us.length : Int) > 4096 then 2 else if (vs.length : Int) > 4096 then 2 else if circB gs = true then (if (fieldsB us && fieldsB vs) = true then (if (us.length : Int) = cnt 2 gs then (if (vs.length : Int) = cnt 1 gs then 0 else 8) else 8) else 1) else 19
theorem runC_eq {gs : List S115} {us vs : List Int} (hg : gs.length ≤ 1048576) (hu : us.length ≤ 1048576) (hv : vs.length ≤ 1048576) {k : Nat} (hk : 3000000 < k) :
  impl_runCode.f k gs us vs = some (runC gs us vs) ∧ spec_l11Ask.f k gs us vs = some (runC gs us vs) := by
 obtain ⟨k, rfl⟩ : ∃ m, k = m + 1 + 1 := ⟨k - 2, (by omega)⟩
 unfold impl_runCode.f spec_l11Ask.f runC
 by_cases h1 : (us.length : Int) > 4096
 ·
  rw [if_pos h1, if_pos h1, if_pos h1]
  simp only [impl_runCode.j0, spec_l11Ask.j0, if_true]
  exact ⟨trivial, trivial⟩
 rw [if_neg h1, if_neg h1, if_neg h1]
 by_cases h2 : (vs.length : Int) > 4096
 ·
  rw [decide_eq_true h2, if_pos h2]
  simp only [impl_runCode.j0, spec_l11Ask.j0, if_true]
  exact ⟨trivial, trivial⟩
 rw [decide_eq_false h2, if_neg h2]
 simp only [impl_runCode.j0, spec_l11Ask.j0, Bool.false_eq_true, if_false]
 rw [impl_CircuitOK_eq hg (by omega), spec_CircuitOK_eq hg (by omega)]
 simp only [bS]
 by_cases h3 : circB gs = true
 ·
  rw [if_pos h3, if_pos h3, if_pos h3, are_fields_eq, l10Fields_eq hu (by omega)]
  simp only [bS]
  have fin : ∀ b : Bool, impl_runCode.j1 (k + 1) us vs b gs = some (if b = true then 1 else (if (us.length : Int) = cnt 2 gs then (if (vs.length : Int) = cnt 1 gs then 0 else 8) else 8)) ∧ spec_l11Ask.j1 (k + 1) us vs b gs = some (if b = true then 1 else (if (us.length : Int) = cnt 2 gs then (if (vs.length : Int) = cnt 1 gs then 0 else 8) else 8)) := by
   intro b
   cases b
   ·
    simp only [impl_runCode.j1, spec_l11Ask.j1, Bool.false_eq_true, if_false]
    rw [countOf_eq hg 2 (by omega), l11Count_eq hg 2 (by omega)]
    simp only [bS]
    by_cases c2 : (us.length : Int) = cnt 2 gs
    ·
     rw [if_pos c2, if_pos c2, if_pos c2, countOf_eq hg 1 (by omega), l11Count_eq hg 1 (by omega)]
     simp only [bS]
     by_cases c1 : (vs.length : Int) = cnt 1 gs
     ·
      rw [if_pos c1, if_pos c1]; exact ⟨rfl, rfl⟩
     ·
      rw [if_neg c1, if_neg c1]; exact ⟨rfl, rfl⟩
    ·
     rw [if_neg c2, if_neg c2, if_neg c2]; exact ⟨rfl, rfl⟩
   ·
    simp only [impl_runCode.j1, spec_l11Ask.j1, if_true]
    exact ⟨trivial, trivial⟩
  cases hfu : fieldsB us
  ·
   simp only [Bool.false_eq_true, if_false, Bool.false_and]
   exact fin true
  ·
   simp only [if_true, Bool.true_and]
   rw [are_fields_eq, l10Fields_eq hv (by omega)]
   simp only [bS]
   have := fin (!fieldsB vs)
   cases hfv : fieldsB vs
   ·
    rw [hfv] at this; exact this
   ·
    rw [hfv] at this; exact this
 ·
  rw [if_neg h3, if_neg h3, if_neg h3]; exact ⟨rfl, rfl⟩
theorem runC_zero {gs : List S115} {us vs : List Int} (h : runC gs us vs = 0) : us.length ≤ 4096 ∧ vs.length ≤ 4096 ∧ circB gs = true ∧ fieldsB us = true ∧ fieldsB vs = true ∧ (us.length : Int) = cnt 2 gs ∧ (vs.length : Int) = cnt 1 gs := by
 unfold runC at h
 by_cases h1 : (us.length : Int) > 4096
 ·
  rw [if_pos h1] at h; omega
 rw [if_neg h1] at h
 by_cases h2 : (vs.length : Int) > 4096
 ·
  rw [if_pos h2] at h; omega
 rw [if_neg h2] at h
 by_cases h3 : circB gs = true
 ·
  rw [if_pos h3] at h
  by_cases h4 : (fieldsB us && fieldsB vs) = true
  ·
   rw [if_pos h4] at h
   rw [Bool.and_eq_true] at h4
   by_cases h5 : (us.length : Int) = cnt 2 gs
   ·
    rw [if_pos h5] at h
    by_cases h6 : (vs.length : Int) = cnt 1 gs
    ·
     exact ⟨(by omega), (by omega), h3, h4.1, h4.2, h5, h6⟩
    ·
     rw [if_neg h6] at h; omega
   ·
    rw [if_neg h5] at h; omega
  ·
   rw [if_neg h4] at h; omega
 ·
  rw [if_neg h3] at h; omega
/-- A run, both ways. -/
theorem run_same {gs : List S115} {us vs : List Int} (h : runC gs us vs = 0) :
  ∃ R : List Int, R.length = gs.length ∧ R.length ≤ 15 ∧ ∀ k, 100 < k → spec_l11Run.f k gs us vs = some R ∧ spec_l11Fits.f k gs R = some (fitsL R gs) ∧ impl_Circuit_run.f k gs us vs = some (if fitsL R gs = true then (R, true) else ([], false)) := by
 obtain ⟨h1, h2, h3, h4, h5, h6, h7⟩ := runC_zero h
 unfold circB at h3
 rw [Bool.and_eq_true, Bool.and_eq_true, decide_eq_true_eq] at h3
 obtain ⟨hl, hg, _⟩ := h3
 obtain ⟨R, S, hR, hRl, hF, hk⟩ := run_l0 gs (by omega) us vs (fieldsB_iff h4) (fieldsB_iff h5) h1 h2 gs.length 0 0 0 [] (by omega) rfl (by intro y hy; cases hy) (by rw [List.drop_zero]; exact hg) (by rw [List.drop_zero, List.drop_zero]; omega) (by rw [List.drop_zero, List.drop_zero]; omega) (by omega) (by omega)
 refine ⟨R, hRl, (by omega), fun k hk2 => ?_⟩
 obtain ⟨e1, e2⟩ := hk k (by omega)
 have e3 := fits_l0 gs (by omega) R hRl gs.length k 0 (by omega) (by omega) (by rw [List.drop_zero]; exact hg)
 rw [Int.natCast_zero] at e1 e2 e3
 rw [List.drop_zero, List.drop_zero, List.drop_zero] at e2
 rw [List.drop_zero] at e3
 unfold spec_l11Run.f spec_l11Fits.f impl_Circuit_run.f
 exact ⟨e1, e3, e2⟩
/-! marks -/
theorem markG_l0 (d : Nat) : ∀ (k i : Nat) (a : List S115) (c : Int), i + d = a.length → d < k → a.length ≤ 1048576 → 0 ≤ c → c + 4 * (d : Int) ≤ 100000000 → ∃ v l, laws_markGateS.l0 k a c i = some (v, l) ∧ 0 ≤ v ∧ v ≤ c + 4 * (d : Int) := by
 induction d with
 | zero =>
  intro k i a c hi hk ha h0 h1
  obtain ⟨k, rfl⟩ : ∃ m, k = m + 1 := ⟨k - 1, (by omega)⟩
  simp only [laws_markGateS.l0]
  rw [if_neg (by omega)]
  exact ⟨_, _, rfl, h0, (by omega)⟩
 | succ d ih =>
  intro k i a c hi hk ha h0 h1
  obtain ⟨k, rfl⟩ : ∃ m, k = m + 1 := ⟨k - 1, (by omega)⟩
  simp only [laws_markGateS.l0]
  rw [if_pos (by omega), if_pos (by omega)]
  simp only [bS]
  rw [w64 (n := c + 1) (by omega) (by omega), w64 (n := c + 1 + 1) (by omega) (by omega), w64 (n := c + 1 + 1 + 1) (by omega) (by omega), w64 (n := c + 1 + 1 + 1 + 1) (by omega) (by omega), w64 (n := (i : Int) + 1) (by omega) (by omega), show (i : Int) + 1 = ((i + 1 : Nat) : Int) by omega]
  have key : ∀ L : List S115, L.length = a.length → ∃ v l, laws_markGateS.l0 k L (c + 1 + 1 + 1 + 1) ((i + 1 : Nat) : Int) = some (v, l) ∧ 0 ≤ v ∧ v ≤ c + 4 * ((d + 1 : Nat) : Int) := by
   intro L hL
   obtain ⟨v, l, e, g0, g1⟩ := ih k (i + 1) L (c + 1 + 1 + 1 + 1) (by omega) (by omega) (by omega) (by omega) (by omega)
   exact ⟨v, l, e, g0, (by omega)⟩
  exact key _ (by simp only [List.length_set])
theorem markCircuit_ok {x : List S115} (h : x.length ≤ 1048576) {k : Nat} (hk : 1048576 < k) : ∃ v r, laws_markCircuit.f k x 1 = some (v, r) ∧ 0 ≤ v ∧ v ≤ 5000000 := by
 obtain ⟨v1, m1, e1, g1, u1⟩ := markG_l0 x.length k 0 x 1 (by omega) (by omega) (by omega) (by omega) (by omega)
 rw [Int.natCast_zero] at e1
 unfold laws_markCircuit.f laws_markGateS.f
 rw [e1]
 simp only [bS]
 exact ⟨v1, _, rfl, g1, (by omega)⟩
end Go.Proofs.Ytekijbcblajjbaa.PT
end
section
/- A circuit's witness: both sides tell the same values. -/
namespace Go.Proofs.Ytekijbcblajjbaa.PT
open Go.RowKit Go.Proofs.YtekijbcblajjbaaW.PrintWords Go.Proofs.YtekijbcblajjbaaW.PrintLast Go.Proofs.YtekijbcblajjbaaW.PrintMore
set_option linter.unusedVariables false
set_option linter.unusedSimpArgs false
theorem others_l0 (gs : List S115) (hgl : gs.length ≤ 15) (R : List Int) (hR : R.length = gs.length) (d : Nat) : ∀ (i : Nat) (o : List Int), i + d = gs.length → o.length ≤ i →
  ∃ q : List Int, q.length ≤ 15 ∧ ∀ k, d < k → impl_Circuit_others.l0 k R o gs (gs.length : Int) i = some q ∧ spec_l11Privates.l0 k R o i gs = some q := by
 induction d with
 | zero =>
  intro i o hi ho
  refine ⟨o, (by omega), fun k hk => ?_⟩
  obtain ⟨k, rfl⟩ : ∃ m, k = m + 1 := ⟨k - 1, (by omega)⟩
  simp only [impl_Circuit_others.l0, spec_l11Privates.l0]
  rw [if_neg (by omega), if_neg (by omega)]; exact ⟨rfl, rfl⟩
 | succ d ih =>
  intro i o hi ho
  have hlt : i < gs.length := by omega
  have hrd : rd_T115 gs (i : Int) = gs[i] := rdGateS hlt
  have wi : wrap64 ((i : Int) + 1) = ((i + 1 : Nat) : Int) := by rw [w64 (by omega) (by omega)]; omega
  have lim := am_ (show o.length < 17592186044416 from Nat.lt_of_le_of_lt (show o.length ≤ 15 by omega) (by decide))
  have ci : (i : Int) < (gs.length : Int) := Int.ofNat_lt.mpr hlt
  have cr : (i : Int) < (R.length : Int) := by rw [hR]; exact ci
  have c0 : 0 ≤ (i : Int) := Int.natCast_nonneg i
  by_cases h2 : gs[i].f0 = 2
  ·
   obtain ⟨q, hq, hk⟩ := ih (i + 1) o (by omega) (by omega)
   refine ⟨q, hq, fun k hk2 => ?_⟩
   obtain ⟨k, rfl⟩ : ∃ m, k = m + 1 := ⟨k - 1, (by omega)⟩
   simp only [impl_Circuit_others.l0, spec_l11Privates.l0]
   rw [if_pos ci, if_pos c0, if_pos ci, hrd, if_pos h2, wi, if_pos ci, if_pos c0, if_pos h2]
   exact hk k (by omega)
  ·
   obtain ⟨q, hq, hk⟩ := ih (i + 1) (o ++ [rd R i]) (by omega) (by simp; omega)
   refine ⟨q, hq, fun k hk2 => ?_⟩
   obtain ⟨k, rfl⟩ : ∃ m, k = m + 1 := ⟨k - 1, (by omega)⟩
   simp only [impl_Circuit_others.l0, spec_l11Privates.l0]
   rw [if_pos ci, if_pos c0, if_pos ci, hrd, if_neg h2, if_pos cr, if_pos lim.out, wi, if_pos ci, if_pos c0, if_neg h2, if_pos cr, if_pos lim.out]
   exact hk k (by omega)
theorem others_same {gs : List S115} (hgl : gs.length ≤ 15) {R : List Int} (hR : R.length = gs.length) :
  ∃ q : List Int, q.length ≤ 15 ∧ ∀ k, 20 < k → impl_Circuit_others.f k gs R = some q ∧ spec_l11Privates.f k gs R = some q := by
 obtain ⟨q, hq, hk⟩ := others_l0 gs hgl R hR gs.length 0 [] (by omega) (by simp)
 refine ⟨q, hq, fun k hk2 => ?_⟩
 have e := hk k (by omega)
 rw [Int.natCast_zero] at e
 exact e
theorem WitnessOf_same (gs : List S115) (us vs : List Int) (hg : gs.length ≤ 1048576) (hu : us.length ≤ 1048576) (hv : vs.length ≤ 1048576) :
  ∃ r : List Int × List Int × Int, r.1.length ≤ 4096 ∧ r.2.1.length ≤ 4096 ∧ ∀ k, 3000020 < k → impl_WitnessOf.f k gs us vs = some r ∧ spec_WitnessOf.f k gs us vs = some r := by
 have none_ : ∀ c : Int, c ≠ 0 → (∀ k, 3000010 < k → impl_RunCircuit.f k gs us vs = some ([], c)) → (∀ k, 3000020 < k → spec_WitnessOf.f k gs us vs = some ([], [], c)) →
   ∃ r : List Int × List Int × Int, r.1.length ≤ 4096 ∧ r.2.1.length ≤ 4096 ∧ ∀ k, 3000020 < k → impl_WitnessOf.f k gs us vs = some r ∧ spec_WitnessOf.f k gs us vs = some r := by
  intro c hc h1 h2
  refine ⟨([], [], c), by simp, by simp, fun k hk => ⟨?_, h2 k hk⟩⟩
  unfold impl_WitnessOf.f
  rw [h1 k (by omega)]
  simp only [bS]
  rw [if_neg hc]
 have code : ∀ k, 3000010 < k → runC gs us vs ≠ 0 → impl_RunCircuit.f k gs us vs = some ([], runC gs us vs) := by
  intro k hk h
  unfold impl_RunCircuit.f
  rw [(runC_eq hg hu hv (by omega)).1]
  simp only [bS]
  rw [if_neg h]
 by_cases h1 : (us.length : Int) > 4096
 ·
  have e : runC gs us vs = 2 := by unfold runC; rw [if_pos h1]
  refine none_ 2 (by decide) (fun k hk => ?_) (fun k hk => ?_)
  ·
   rw [code k hk (by rw [e]; decide), e]
  ·
   obtain ⟨k, rfl⟩ : ∃ m, k = m + 1 := ⟨k - 1, (by omega)⟩
   unfold spec_WitnessOf.f
   rw [if_pos h1]
   simp only [spec_WitnessOf.j0, if_true]
 by_cases h2 : (vs.length : Int) > 4096
 ·
  have e : runC gs us vs = 2 := by unfold runC; rw [if_neg h1, if_pos h2]
  refine none_ 2 (by decide) (fun k hk => ?_) (fun k hk => ?_)
  ·
   rw [code k hk (by rw [e]; decide), e]
  ·
   obtain ⟨k, rfl⟩ : ∃ m, k = m + 1 := ⟨k - 1, (by omega)⟩
   unfold spec_WitnessOf.f
   rw [if_neg h1, decide_eq_true h2]
   simp only [spec_WitnessOf.j0, if_true]
 have start : ∀ k, 3000005 < k → spec_WitnessOf.f (k + 1) gs us vs = (if runC gs us vs = 0 then ((spec_l11Run.f k gs us vs).bind fun t => ((spec_l11Fits.f k gs t).bind fun b => (if b = true then (if ([] : List Int).length + us.length < 17592186044416 then ((spec_l11Privates.f k gs t).bind fun q => some (([] ++ us), q, (0 : Int))) else none) else some ([], [], 15)))) else some ([], [], runC gs us vs)) := by
  intro k hk
  unfold spec_WitnessOf.f
  rw [if_neg h1, decide_eq_false h2]
  simp only [spec_WitnessOf.j0, Bool.false_eq_true, if_false]
  rw [(runC_eq hg hu hv (k := k) (by omega)).2]
  simp only [bS]
 by_cases h0 : runC gs us vs = 0
 ·
  obtain ⟨R, hRl, hR15, hk⟩ := run_same h0
  have run : ∀ k, 3000010 < k → impl_RunCircuit.f k gs us vs = some (if fitsL R gs = true then (R, 0) else ([], 15)) := by
   intro k hk2
   obtain ⟨_, _, e3⟩ := hk k (by omega)
   unfold impl_RunCircuit.f
   rw [(runC_eq hg hu hv (by omega)).1, h0]
   simp only [bS, if_true]
   rw [e3]
   simp only [bS]
   by_cases hf : fitsL R gs = true
   ·
    rw [if_pos hf, if_pos hf]; rfl
   ·
    rw [if_neg hf, if_neg hf]; rfl
  by_cases hf : fitsL R gs = true
  ·
   obtain ⟨q, hq, hko⟩ := others_same (gs := gs) (by omega) hRl
   refine ⟨(us, q, 0), (by show us.length ≤ 4096; omega), (by show q.length ≤ 4096; omega), fun k hk2 => ?_⟩
   obtain ⟨k, rfl⟩ : ∃ m, k = m + 1 := ⟨k - 1, (by omega)⟩
   have lim : us.length < 17592186044416 := Nat.lt_of_le_of_lt hu (by decide)
   constructor
   ·
    unfold impl_WitnessOf.f slices_Clone_int_int.f
    rw [run (k + 1) (by omega), if_pos hf]
    simp only [bS, if_true]
    rw [if_pos lim]
    simp only [bS]
    rw [(hko (k + 1) (by omega)).1]
    simp only [bS]
   ·
    obtain ⟨e1, e2, _⟩ := hk k (by omega)
    rw [start k (by omega), if_pos h0, e1]
    simp only [bS]
    rw [e2]
    simp only [bS]
    rw [if_pos hf, List.length_nil, Nat.zero_add, if_pos lim, (hko k (by omega)).2]
    simp only [bS, List.nil_append]
  ·
   refine none_ 15 (by decide) (fun k hk2 => ?_) (fun k hk2 => ?_)
   ·
    rw [run k hk2, if_neg hf]
   ·
    obtain ⟨k, rfl⟩ : ∃ m, k = m + 1 := ⟨k - 1, (by omega)⟩
    obtain ⟨e1, e2, _⟩ := hk k (by omega)
    rw [start k (by omega), if_pos h0, e1]
    simp only [bS]
    rw [e2]
    simp only [bS]
    rw [if_neg hf]
 ·
  refine none_ (runC gs us vs) h0 (fun k hk => code k hk h0) (fun k hk => ?_)
  obtain ⟨k, rfl⟩ : ∃ m, k = m + 1 := ⟨k - 1, (by omega)⟩
  rw [start k (by omega), if_neg h0]
end Go.Proofs.Ytekijbcblajjbaa.PT
end
section
/- A circuit's witness, alike on both sides, held apart; the arguments stay as they were. -/
namespace Go.Proofs.Ytekijbcblajjbaa.fnExactWitnessOf
open Go.Proofs.Ytekijbcblajjbaa.PT Go.RowKit Go.Proofs.YtekijbcblajjbaaO
set_option linter.unusedSimpArgs false
theorem pureFnExactWitnessOf : Pure := by
 intro x u v hx hu hv
 have hx0 : x.f0.length ≤ 9223372036854775807 := hx.1
 by_cases h0 : (u.length : Int) > 1048576
 ·
  refine ⟨1, ?_⟩
  unfold laws_FnExactWitnessOf.f
  rw [if_pos h0]
 by_cases h1 : (v.length : Int) > 1048576
 ·
  refine ⟨1, ?_⟩
  unfold laws_FnExactWitnessOf.f
  rw [if_neg h0, if_pos h1]
 by_cases h : (x.f0.length : Int) ≤ 1048576
 ·
  have h3 := convGateS_length x.f0
  refine ⟨4000000 + 1 + 1 + 1, ?_⟩
  generalize hK : 4000000 = K
  obtain ⟨r, hr, hr2, hsame⟩ := WitnessOf_same (convGateS x.f0) u v (by omega) (by omega) (by omega)
  obtain ⟨e1, e2⟩ := hsame (K + 1 + 1 + 1) (by omega)
  obtain ⟨e3, _⟩ := hsame (K + 1) (by omega)
  obtain ⟨vm, rm, em, hv0, hv1⟩ := markCircuit_ok (x := convGateS x.f0) (by omega) (k := K + 1 + 1) (by omega)
  unfold laws_FnExactWitnessOf.f
  rw [if_neg h0, if_neg h1, szCircuit_fit (by omega) h]
  simp only [bS]
  rw [if_neg (by omega), toCircuit_eq (by omega) (by omega)]
  simp only [bS]
  rw [toIntS_eq (l := u) (by omega) (by omega), toIntS_eq (l := v) (by omega) (by omega)]
  simp only [bS]
  rw [e2, e1]
  simp only [bS]
  rw [eqIntS_refl (a := r.1) (by omega) (by omega)]
  simp only [bS, if_true]
  rw [eqIntS_refl (a := r.2.1) (by omega) (by omega)]
  simp only [bS, if_true, bne_self_eq_false, laws_FnExactWitnessOf.j0, Bool.false_eq_true, if_false]
  rw [toCircuit_eq (by omega) (by omega)]
  simp only [bS]
  rw [eqCircuit_refl (by omega) (by omega)]
  simp only [bS, if_true]
  rw [toIntS_eq (l := u) (by omega) (by omega)]
  simp only [bS]
  rw [eqIntS_refl (a := u) (by omega) (by omega)]
  simp only [bS, if_true]
  rw [toIntS_eq (l := v) (by omega) (by omega)]
  simp only [bS]
  rw [eqIntS_refl (a := v) (by omega) (by omega)]
  simp only [bS, if_true]
  rw [em]
  simp only [bS]
  rw [markIntS_eq (a := u) hv0 (by omega) (by omega) (by omega)]
  simp only [bS]
  rw [markIntS_eq (a := v) (by omega) (by omega) (by omega) (by omega)]
  simp only [bS]
  rw [if_neg (by omega), eqIntS_refl (a := r.1) (by omega) (by omega)]
  simp only [bS, if_true]
  rw [eqIntS_refl (a := r.2.1) (by omega) (by omega)]
  simp only [bS, if_true, bne_self_eq_false, laws_FnExactWitnessOf.j1, Bool.false_eq_true, if_false]
  rw [markIntS_eq (a := r.1) (by omega) (by omega) (by omega) (by omega)]
  simp only [bS]
  rw [markIntS_eq (a := r.2.1) (by omega) (by omega) (by omega) (by omega)]
  simp only [bS]
  rw [heldIntS_eq (n := r.1.length) (by omega) (by omega) (by omega) (by omega)]
  simp only [bS]
  rw [if_neg (by omega), heldIntS_eq (n := r.2.1.length) (by omega) (by omega) (by omega) (by omega)]
  simp only [bS]
  rw [if_neg (by omega), if_true, toCircuit_eq (by omega) (by omega)]
  simp only [bS]
  rw [toIntS_eq (l := u) (by omega) (by omega), toIntS_eq (l := v) (by omega) (by omega)]
  simp only [bS]
  rw [e3]
  simp only [bS]
  rw [eqIntS_refl (a := r.1) (by omega) (by omega)]
  simp only [bS, if_true]
  rw [eqIntS_refl (a := r.2.1) (by omega) (by omega)]
  simp only [bS, if_true, bne_self_eq_false, laws_FnExactWitnessOf.j2, Bool.false_eq_true, if_false]
  rw [heldIntS_eq (n := r.1.length) (by omega) (by omega) (by omega) (by omega)]
  simp only [bS]
  rw [if_neg (by omega), heldIntS_eq (n := r.2.1.length) (by omega) (by omega) (by omega) (by omega)]
  simp only [bS]
  rw [if_neg (by omega), if_true]
 ·
  refine ⟨1, ?_⟩
  unfold laws_FnExactWitnessOf.f
  rw [if_neg h0, if_neg h1, szCircuit_big (by omega) (by omega) hx0 (by omega)]
  simp
end Go.Proofs.Ytekijbcblajjbaa.fnExactWitnessOf
end
