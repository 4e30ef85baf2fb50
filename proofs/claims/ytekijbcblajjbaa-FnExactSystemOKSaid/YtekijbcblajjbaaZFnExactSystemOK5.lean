/- Part 5 of the proof of FnExactSystemOK: what functions compute, shown step by step, and what that says (the claim's last text states the law). -/
import Derived.Test.YtekijbcblajjbaaProg
import Derived.Test.YtekijbcblajjbaaVMore
import Derived.Test.YtekijbcblajjbaaVWords
import Derived.Test.YtekijbcblajjbaaVLast
import Derived.Test.YtekijbcblajjbaaVTab
import Derived.Test.YtekijbcblajjbaaVQPut
import Derived.Test.YtekijbcblajjbaaVApart
import Derived.Test.YtekijbcblajjbaaVArr
import Derived.Test.YtekijbcblajjbaaVZeros
import Derived.Test.YtekijbcblajjbaaVFoot
import Derived.Test.YtekijbcblajjbaaVKept
import Derived.Test.YtekijbcblajjbaaVShare
import Derived.Test.YtekijbcblajjbaaVN
import Derived.Test.YtekijbcblajjbaaVRepsOne
import Derived.Test.YtekijbcblajjbaaVNEv
import Derived.Test.YtekijbcblajjbaaRows
import Derived.JoinedOf
import Derived.WalkKit
import Derived.ProofKit
import Derived.Below
import Derived.Deep.Draws
import Derived.Deep.AppendLies
import Derived.Maps.AppendAt
import Derived.OwnWalk
import Derived.Laws.BytesArg
import Derived.Laws.MakeOwn
import Derived.Laws.OwnMore
import Derived.Deep.OwnRows
import Derived.Tactics
import Derived.Lib.ConvBytes
import Derived.Laws.Slices
import Derived.KernelRfl
import Derived.RowKit3
import Derived.Deep.LoopGhost
import Derived.Deep.QuietTactic
import Derived.BigQuiet
import Derived.WideLaws
import Derived.Deep.DeepCutAuto
import Derived.Deep.CutBlock
import Derived.Deep.RegionHeld3
import Derived.Laws.Rows
import Derived.Lib.AppendStr
import Derived.ArgAppend
import Derived.Laws.IdiomCopy
import Derived.OrdersHeld
import Derived.Laws.BitsLemmas
import Derived.RowKit
import Derived.OpenShut
import Derived.ShutString
import Derived.ChangeOld
import Derived.SizedLaws
import Derived.Deep.Slices
import Derived.ChangeArms
import Derived.Test.YtekijbcblajjbaaZFnExactSystemOK4
section
namespace Go.Proofs.Ytekijbcblajjbaa.PT
open Go.RowKit Go.Proofs.YtekijbcblajjbaaW.PrintWords Go.Proofs.YtekijbcblajjbaaW.PrintLast Go.Proofs.YtekijbcblajjbaaW.PrintMore
attribute [local go_sem] max2_int min2_int max_two min_two max_three min_three max_four min_four   -- for this text's walks alone
set_option linter.unusedVariables false
set_option linter.unusedSimpArgs false

/-! ### laws_FnExactSystemOK: function 3 -/
def laws_FnExactSystemOK.f (k : Nat) (a0_0 : Int) (a0_1 : Int) (a0_2 : Int) (l0_3 : List (S105)) (l0_4 : List (S105)) (l0_5 : List (S105)) : Option (Bool) := (laws_szSystem.f a0_0 a0_1 a0_2 l0_3 l0_4 l0_5 1048576).bind fun t102 => (if t102 < 0 then (some true) else ((laws_toSystem.f k a0_0 a0_1 a0_2 l0_3 l0_4 l0_5).bind fun bt103 => ((spec_SystemOK.f k bt103.1 bt103.2.1 bt103.2.2.1 bt103.2.2.2.1 bt103.2.2.2.2.1 bt103.2.2.2.2.2).bind fun t115 => ((laws_toSystem.f k a0_0 a0_1 a0_2 l0_3 l0_4 l0_5).bind fun bt116 => ((impl_SystemOK.f k bt116.1 bt116.2.1 bt116.2.2.1 bt116.2.2.2.1 bt116.2.2.2.2.1 bt116.2.2.2.2.2).bind fun t129 => (if (t129 != t115) = true then (some false) else ((laws_toSystem.f k a0_0 a0_1 a0_2 l0_3 l0_4 l0_5).bind fun bt130 => ((laws_eqSystem.f k bt116.1 bt116.2.1 bt116.2.2.1 bt116.2.2.2.1 bt116.2.2.2.2.1 bt116.2.2.2.2.2 bt130.1 bt130.2.1 bt130.2.2.1 bt130.2.2.2.1 bt130.2.2.2.2.1 bt130.2.2.2.2.2).bind fun t142 => (if t142 = true then (some true) else (some false))))))))))
theorem laws_FnExactSystemOK.mono : ∀ a0 a1 a2 a3 a4 a5 k, LeO (laws_FnExactSystemOK.f k a0 a1 a2 a3 a4 a5) (laws_FnExactSystemOK.f (k + 1) a0 a1 a2 a3 a4 a5) := by
  intro a0 a1 a2 a3 a4 a5 k
  unfold laws_FnExactSystemOK.f
  repeat' first
      | (with_reducible exact impl_SystemOK.mono _ _ _ _ _ _ _)
      | (with_reducible exact laws_eqSystem.mono _ _ _ _ _ _ _ _ _ _ _ _ _)
      | (with_reducible exact laws_toSystem.mono _ _ _ _ _ _ _)
      | (with_reducible exact spec_SystemOK.mono _ _ _ _ _ _ _)
      | (with_reducible exact LeO.refl _)
      | (with_reducible exact LeO.none _)
      | (with_reducible refine LeO.ite ?_ ?_)
      | (with_reducible refine LeO.bind ?_ (fun _ => ?_))
      | exact impl_SystemOK.mono _ _ _ _ _ _ _
      | exact laws_eqSystem.mono _ _ _ _ _ _ _ _ _ _ _ _ _
      | exact laws_toSystem.mono _ _ _ _ _ _ _
      | exact spec_SystemOK.mono _ _ _ _ _ _ _
      | exact LeO.none _
      | refine LeO.ite ?_ ?_
      | refine LeO.bind ?_ (fun _ => ?_)
set_option maxHeartbeats 8000000 in
set_option maxRecDepth 100000 in
theorem laws_FnExactSystemOK.calls (k : Nat) (a0_0 : Int) (a0_1 : Int) (a0_2 : Int) (A0_3 : Option Addr) (c0_3 : Nat) (l0_3 : List (S105)) (A0_4 : Option Addr) (c0_4 : Nat) (l0_4 : List (S105)) (A0_5 : Option Addr) (c0_5 : Nat) (l0_5 : List (S105)) (r : Bool) (w : World) (hr0_3 : Kd.C k105 w A0_3 l0_3.length l0_3) (hc0_3 : l0_3.length ≤ c0_3) (hr0_4 : Kd.C k105 w A0_4 l0_4.length l0_4) (hc0_4 : l0_4.length ≤ c0_4) (hr0_5 : Kd.C k105 w A0_5 l0_5.length l0_5) (hc0_5 : l0_5.length ≤ c0_5) (hr_ : r = true) (h : laws_FnExactSystemOK.f k a0_0 a0_1 a0_2 l0_3 l0_4 l0_5 = some r) :
    Calls Try.prog 3 #[.agg #[.int .i64 a0_0, .int .i64 a0_1, .int .i64 a0_2, .slice A0_3 l0_3.length c0_3, .slice A0_4 l0_4.length c0_4, .slice A0_5 l0_5.length c0_5]] w fun e w' => e = .returned (.bool r) ∧ Below w.heap.size w w' := by
  have hu24 := Try.underlying24
  have hu29 := Try.underlying29
  have HR0_3 := Aside0.mk hr0_3
  have HC0_3 := Aside0.mk hc0_3
  clear hr0_3 hc0_3
  have HR0_4 := Aside0.mk hr0_4
  have HC0_4 := Aside0.mk hc0_4
  clear hr0_4 hc0_4
  have HR0_5 := Aside0.mk hr0_5
  have HC0_5 := Aside0.mk hc0_5
  clear hr0_5 hc0_5
  have HB := Aside0.mk (Below.refl w.heap.size w)
  have H : ((laws_szSystem.f a0_0 a0_1 a0_2 l0_3 l0_4 l0_5 1048576).bind fun t102 => (if t102 < 0 then (some true) else ((laws_toSystem.f k a0_0 a0_1 a0_2 l0_3 l0_4 l0_5).bind fun bt103 => ((spec_SystemOK.f k bt103.1 bt103.2.1 bt103.2.2.1 bt103.2.2.2.1 bt103.2.2.2.2.1 bt103.2.2.2.2.2).bind fun t115 => ((laws_toSystem.f k a0_0 a0_1 a0_2 l0_3 l0_4 l0_5).bind fun bt116 => ((impl_SystemOK.f k bt116.1 bt116.2.1 bt116.2.2.1 bt116.2.2.2.1 bt116.2.2.2.2.1 bt116.2.2.2.2.2).bind fun t129 => (if (t129 != t115) = true then (some false) else ((laws_toSystem.f k a0_0 a0_1 a0_2 l0_3 l0_4 l0_5).bind fun bt130 => ((laws_eqSystem.f k bt116.1 bt116.2.1 bt116.2.2.1 bt116.2.2.2.1 bt116.2.2.2.2.1 bt116.2.2.2.2.2 bt130.1 bt130.2.1 bt130.2.2.1 bt130.2.2.2.1 bt130.2.2.2.2.1 bt130.2.2.2.2.2).bind fun t142 => (if t142 = true then (some true) else (some false))))))))))) = some r := h
  clear h
  replace H := Option.bind_eq_some_iff.mp H
  obtain ⟨t102, A20, H⟩ := H
  replace H : (if t102 < 0 then (some true) else ((laws_toSystem.f k a0_0 a0_1 a0_2 l0_3 l0_4 l0_5).bind fun bt103 => ((spec_SystemOK.f k bt103.1 bt103.2.1 bt103.2.2.1 bt103.2.2.2.1 bt103.2.2.2.2.1 bt103.2.2.2.2.2).bind fun t115 => ((laws_toSystem.f k a0_0 a0_1 a0_2 l0_3 l0_4 l0_5).bind fun bt116 => ((impl_SystemOK.f k bt116.1 bt116.2.1 bt116.2.2.1 bt116.2.2.2.1 bt116.2.2.2.2.1 bt116.2.2.2.2.2).bind fun t129 => (if (t129 != t115) = true then (some false) else ((laws_toSystem.f k a0_0 a0_1 a0_2 l0_3 l0_4 l0_5).bind fun bt130 => ((laws_eqSystem.f k bt116.1 bt116.2.1 bt116.2.2.1 bt116.2.2.2.1 bt116.2.2.2.2.1 bt116.2.2.2.2.2 bt130.1 bt130.2.1 bt130.2.2.1 bt130.2.2.2.1 bt130.2.2.2.2.1 bt130.2.2.2.2.2).bind fun t142 => (if t142 = true then (some true) else (some false)))))))))) = some r := H
  have A2 := Aside0.mk A20
  clear A20
  by_cases c3 : t102 < 0
  · rw [if_pos c3] at H
    have c3b0 : decide (t102 < 0) = true := decide_eq_true c3
    clear c3
    obtain rfl := Option.some.inj H
    go_enter Try.func3, Try.ntmps3
    go_wp2_with (first | ((with_reducible refine gate_dst (N := 1) rfl ?_); refine box_event ?hg (N := 1) ?hd (cs := #[.int .i64 a0_0, .int .i64 a0_1, .int .i64 a0_2, .slice A0_3 l0_3.length c0_3, .slice A0_4 l0_4.length c0_4, .slice A0_5 l0_5.length c0_5]) (t := 24) ?hr ?_; (case hd => rfl); (case hg => rfl); (case hr => first | (go_simp; done) | (go_simp; rfl)); intro gb101 hg w4 hbox hb; have n0_ := Aside0.mk (below_step (by repeat (first | (with_reducible first | exact HB.out | apply below_alloc | apply pw_below_drewN | apply below_drew1) | exact HB.out)) hb); have n1_ := Aside0.mk (hbox); have n2_ := Aside0.mk ((by rw [hg]; exact (below_size (by repeat (first | (with_reducible first | exact HB.out | apply below_alloc | apply pw_below_drewN | apply below_drew1) | exact HB.out))) : w.heap.size ≤ gb101)); have n3_ := Aside0.mk ((by rw [hg]; exact (below_size (by repeat (first | (with_reducible first | exact HB.out | apply below_alloc | apply pw_below_drewN | apply below_drew1) | exact HB.out))) : w.heap.size ≤ gb101)); clear HB; have HB := n0_; have BK101 := n1_; have GW101 := n2_; have GE101 := n3_; clear n0_ n1_ n2_ n3_; clear hb hbox hg; have hcz5_0 : w4.cell? ⟨gb101, 0, none⟩ = some (.int .i64 a0_0) := (blk_cell BK101.out 0).trans rfl; have hcz5_1 : w4.cell? ⟨gb101, 1, none⟩ = some (.int .i64 a0_1) := (blk_cell BK101.out 1).trans rfl; have hcz5_2 : w4.cell? ⟨gb101, 2, none⟩ = some (.int .i64 a0_2) := (blk_cell BK101.out 2).trans rfl; have hcz5_3 : w4.cell? ⟨gb101, 3, none⟩ = some (.slice A0_3 l0_3.length c0_3) := (blk_cell BK101.out 3).trans rfl; have hcz5_4 : w4.cell? ⟨gb101, 4, none⟩ = some (.slice A0_4 l0_4.length c0_4) := (blk_cell BK101.out 4).trans rfl; have hcz5_5 : w4.cell? ⟨gb101, 5, none⟩ = some (.slice A0_5 l0_5.length c0_5) := (blk_cell BK101.out 5).trans rfl; have hfz5_0 := blk_frozen BK101.out 0; have hfz5_1 := blk_frozen BK101.out 1; have hfz5_2 := blk_frozen BK101.out 2; have hfz5_3 := blk_frozen BK101.out 3; have hfz5_4 := blk_frozen BK101.out 4; have hfz5_5 := blk_frozen BK101.out 5) | ((with_reducible refine gate_callee (f := 10) rfl ?_); refine goesL_ (some 9) rfl rfl Try.func10 (by kernel_rfl) rfl #[.agg #[.int .i64 a0_0, .int .i64 a0_1, .int .i64 a0_2, .slice A0_3 l0_3.length c0_3, .slice A0_4 l0_4.length c0_4, .slice A0_5 l0_5.length c0_5], .int .i64 1048576] rfl (by (try simp only [List.map_toArray, List.map_cons, List.map_nil]); first | done | rfl | (simp only [List.length_drop, List.length_take]; rfl)) ?_; (with_reducible refine (laws_szSystem.calls a0_0 a0_1 a0_2 _ _ l0_3 _ _ l0_4 _ _ l0_5 1048576 t102 _ ?side1 ?side2 ?side3 ?side4 ?side5 ?side6 A2.out).mono ?_); (case side1 => repeat (first | exact (Kd.C_below HR0_3.out HB.out) | (with_reducible refine Kd.C_alloc ?_ _) | (with_reducible refine Kd.C_drewN ?_ _) | (with_reducible refine Kd.C_drew ?_))); (case side2 => exact HC0_3.out); (case side3 => repeat (first | exact (Kd.C_below HR0_4.out HB.out) | (with_reducible refine Kd.C_alloc ?_ _) | (with_reducible refine Kd.C_drewN ?_ _) | (with_reducible refine Kd.C_drew ?_))); (case side4 => exact HC0_4.out); (case side5 => repeat (first | exact (Kd.C_below HR0_5.out HB.out) | (with_reducible refine Kd.C_alloc ?_ _) | (with_reducible refine Kd.C_drewN ?_ _) | (with_reducible refine Kd.C_drew ?_))); (case side6 => exact HC0_5.out); rintro e w6 ⟨rfl, hb⟩; refine ⟨_, rfl, ?_⟩; have n0_ := Aside0.mk (blk_below (g := gb101) (o := .cells #[.int .i64 a0_0, .int .i64 a0_1, .int .i64 a0_2, .slice A0_3 l0_3.length c0_3, .slice A0_4 l0_4.length c0_4, .slice A0_5 l0_5.length c0_5] 24 (0, 0)) (by (with_reducible repeat (first | refine blk_drewN ?_ _ | refine blk_drew ?_ | refine blk_alloc ?_ _)); exact BK101.out) hb); have n1_ := Aside0.mk (below_step (by repeat (first | (with_reducible first | exact HB.out | apply below_alloc | apply pw_below_drewN | apply below_drew1 | refine below_set ?_ GE101.out) | exact HB.out)) hb); clear BK101; clear HB; have BK101 := n0_; have HB := n1_; clear n0_ n1_; (try clear hb); (try clear hb2); (try clear hk); (try clear hi)))
    go_ret
    exact ⟨by first | rfl | (simp [errW_none, errW_some] <;> rfl) | (simp [*, errW_none, errW_some] <;> rfl), by repeat (first | (with_reducible first | exact HB.out | apply below_alloc | apply pw_below_drewN | apply below_drew1 | refine below_set ?_ GE101.out) | exact HB.out)⟩
  · rw [if_neg c3] at H
    have c3b0 : decide (t102 < 0) = false := decide_eq_false c3
    clear c3
    replace H := Option.bind_eq_some_iff.mp H
    obtain ⟨⟨t103, t104, t105, t106, t109, t112⟩, A70, H⟩ := H
    replace H : ((spec_SystemOK.f k t103 t104 t105 t106 t109 t112).bind fun t115 => ((laws_toSystem.f k a0_0 a0_1 a0_2 l0_3 l0_4 l0_5).bind fun bt116 => ((impl_SystemOK.f k bt116.1 bt116.2.1 bt116.2.2.1 bt116.2.2.2.1 bt116.2.2.2.2.1 bt116.2.2.2.2.2).bind fun t129 => (if (t129 != t115) = true then (some false) else ((laws_toSystem.f k a0_0 a0_1 a0_2 l0_3 l0_4 l0_5).bind fun bt130 => ((laws_eqSystem.f k bt116.1 bt116.2.1 bt116.2.2.1 bt116.2.2.2.1 bt116.2.2.2.2.1 bt116.2.2.2.2.2 bt130.1 bt130.2.1 bt130.2.2.1 bt130.2.2.2.1 bt130.2.2.2.2.1 bt130.2.2.2.2.2).bind fun t142 => (if t142 = true then (some true) else (some false)))))))) = some r := H
    have A7 := Aside0.mk A70
    clear A70
    replace H := Option.bind_eq_some_iff.mp H
    obtain ⟨t115, A80, H⟩ := H
    replace H : ((laws_toSystem.f k a0_0 a0_1 a0_2 l0_3 l0_4 l0_5).bind fun bt116 => ((impl_SystemOK.f k bt116.1 bt116.2.1 bt116.2.2.1 bt116.2.2.2.1 bt116.2.2.2.2.1 bt116.2.2.2.2.2).bind fun t129 => (if (t129 != t115) = true then (some false) else ((laws_toSystem.f k a0_0 a0_1 a0_2 l0_3 l0_4 l0_5).bind fun bt130 => ((laws_eqSystem.f k bt116.1 bt116.2.1 bt116.2.2.1 bt116.2.2.2.1 bt116.2.2.2.2.1 bt116.2.2.2.2.2 bt130.1 bt130.2.1 bt130.2.2.1 bt130.2.2.2.1 bt130.2.2.2.2.1 bt130.2.2.2.2.2).bind fun t142 => (if t142 = true then (some true) else (some false))))))) = some r := H
    have A8 := Aside0.mk A80
    clear A80
    replace H := Option.bind_eq_some_iff.mp H
    obtain ⟨⟨t116, t117, t118, t119, t122, t125⟩, A90, H⟩ := H
    replace H : ((impl_SystemOK.f k t116 t117 t118 t119 t122 t125).bind fun t129 => (if (t129 != t115) = true then (some false) else ((laws_toSystem.f k a0_0 a0_1 a0_2 l0_3 l0_4 l0_5).bind fun bt130 => ((laws_eqSystem.f k t116 t117 t118 t119 t122 t125 bt130.1 bt130.2.1 bt130.2.2.1 bt130.2.2.2.1 bt130.2.2.2.2.1 bt130.2.2.2.2.2).bind fun t142 => (if t142 = true then (some true) else (some false)))))) = some r := H
    have A9 := Aside0.mk A90
    clear A90
    replace H := Option.bind_eq_some_iff.mp H
    obtain ⟨t129, A100, H⟩ := H
    replace H : (if (t129 != t115) = true then (some false) else ((laws_toSystem.f k a0_0 a0_1 a0_2 l0_3 l0_4 l0_5).bind fun bt130 => ((laws_eqSystem.f k t116 t117 t118 t119 t122 t125 bt130.1 bt130.2.1 bt130.2.2.1 bt130.2.2.2.1 bt130.2.2.2.2.1 bt130.2.2.2.2.2).bind fun t142 => (if t142 = true then (some true) else (some false))))) = some r := H
    have A10 := Aside0.mk A100
    clear A100
    by_cases c11 : (t129 != t115) = true
    · rw [if_pos c11] at H
      have c11b0 : (t129 != t115) = true := c11
      (try (have c11b1 : decide (t129 = t115) = false := by simpa using c11))
      (try (have c11b2 : (t129 == t115) = false := by simpa using c11))
      (try (have c11b3 : ¬ (t129 = t115) := by simpa using c11))
      clear c11
      exact absurd ((Option.some.inj H).trans hr_) (by decide)
    · rw [if_neg c11] at H
      have c11b0 : (t129 != t115) = false := by simpa using c11
      (try (have c11b1 : decide (t129 = t115) = true := by simpa using c11))
      (try (have c11b2 : (t129 == t115) = true := by simpa using c11))
      clear c11
      replace H := Option.bind_eq_some_iff.mp H
      obtain ⟨⟨t130, t131, t132, t133, t136, t139⟩, A120, H⟩ := H
      replace H : ((laws_eqSystem.f k t116 t117 t118 t119 t122 t125 t130 t131 t132 t133 t136 t139).bind fun t142 => (if t142 = true then (some true) else (some false))) = some r := H
      have A12 := Aside0.mk A120
      clear A120
      replace H := Option.bind_eq_some_iff.mp H
      obtain ⟨t142, A130, H⟩ := H
      replace H : (if t142 = true then (some true) else (some false)) = some r := H
      have A13 := Aside0.mk A130
      clear A130
      by_cases c14 : t142 = true
      · subst c14
        have H1 : (some true) = some r := by rw [if_pos rfl] at H; exact H
        clear H
        have H := H1
        clear H1
        obtain rfl := Option.some.inj H
        go_enter Try.func3, Try.ntmps3
        try go_wp2_with (first | ((with_reducible refine gate_dst (N := 1) rfl ?_); refine box_event ?hg (N := 1) ?hd (cs := #[.int .i64 a0_0, .int .i64 a0_1, .int .i64 a0_2, .slice A0_3 l0_3.length c0_3, .slice A0_4 l0_4.length c0_4, .slice A0_5 l0_5.length c0_5]) (t := 24) ?hr ?_; (case hd => rfl); (case hg => rfl); (case hr => first | (go_simp; done) | (go_simp; rfl)); intro gb101 hg w15 hbox hb; have n0_ := Aside0.mk (below_step (by repeat (first | (with_reducible first | exact HB.out | apply below_alloc | apply pw_below_drewN | apply below_drew1) | exact HB.out)) hb); have n1_ := Aside0.mk (hbox); have n2_ := Aside0.mk ((by rw [hg]; exact (below_size (by repeat (first | (with_reducible first | exact HB.out | apply below_alloc | apply pw_below_drewN | apply below_drew1) | exact HB.out))) : w.heap.size ≤ gb101)); have n3_ := Aside0.mk ((by rw [hg]; exact (below_size (by repeat (first | (with_reducible first | exact HB.out | apply below_alloc | apply pw_below_drewN | apply below_drew1) | exact HB.out))) : w.heap.size ≤ gb101)); clear HB; have HB := n0_; have BK101 := n1_; have GW101 := n2_; have GE101 := n3_; clear n0_ n1_ n2_ n3_; clear hb hbox hg; have hcz16_0 : w15.cell? ⟨gb101, 0, none⟩ = some (.int .i64 a0_0) := (blk_cell BK101.out 0).trans rfl; have hcz16_1 : w15.cell? ⟨gb101, 1, none⟩ = some (.int .i64 a0_1) := (blk_cell BK101.out 1).trans rfl; have hcz16_2 : w15.cell? ⟨gb101, 2, none⟩ = some (.int .i64 a0_2) := (blk_cell BK101.out 2).trans rfl; have hcz16_3 : w15.cell? ⟨gb101, 3, none⟩ = some (.slice A0_3 l0_3.length c0_3) := (blk_cell BK101.out 3).trans rfl; have hcz16_4 : w15.cell? ⟨gb101, 4, none⟩ = some (.slice A0_4 l0_4.length c0_4) := (blk_cell BK101.out 4).trans rfl; have hcz16_5 : w15.cell? ⟨gb101, 5, none⟩ = some (.slice A0_5 l0_5.length c0_5) := (blk_cell BK101.out 5).trans rfl; have hfz16_0 := blk_frozen BK101.out 0; have hfz16_1 := blk_frozen BK101.out 1; have hfz16_2 := blk_frozen BK101.out 2; have hfz16_3 := blk_frozen BK101.out 3; have hfz16_4 := blk_frozen BK101.out 4; have hfz16_5 := blk_frozen BK101.out 5) | ((with_reducible refine gate_callee (f := 10) rfl ?_); refine goesL_ (some 9) rfl rfl Try.func10 (by kernel_rfl) rfl #[.agg #[.int .i64 a0_0, .int .i64 a0_1, .int .i64 a0_2, .slice A0_3 l0_3.length c0_3, .slice A0_4 l0_4.length c0_4, .slice A0_5 l0_5.length c0_5], .int .i64 1048576] rfl (by (try simp only [List.map_toArray, List.map_cons, List.map_nil]); first | done | rfl | (simp only [List.length_drop, List.length_take]; rfl)) ?_; (with_reducible refine (laws_szSystem.calls a0_0 a0_1 a0_2 _ _ l0_3 _ _ l0_4 _ _ l0_5 1048576 t102 _ ?side1 ?side2 ?side3 ?side4 ?side5 ?side6 A2.out).mono ?_); (case side1 => repeat (first | exact (Kd.C_below HR0_3.out HB.out) | (with_reducible refine Kd.C_alloc ?_ _) | (with_reducible refine Kd.C_drewN ?_ _) | (with_reducible refine Kd.C_drew ?_))); (case side2 => exact HC0_3.out); (case side3 => repeat (first | exact (Kd.C_below HR0_4.out HB.out) | (with_reducible refine Kd.C_alloc ?_ _) | (with_reducible refine Kd.C_drewN ?_ _) | (with_reducible refine Kd.C_drew ?_))); (case side4 => exact HC0_4.out); (case side5 => repeat (first | exact (Kd.C_below HR0_5.out HB.out) | (with_reducible refine Kd.C_alloc ?_ _) | (with_reducible refine Kd.C_drewN ?_ _) | (with_reducible refine Kd.C_drew ?_))); (case side6 => exact HC0_5.out); rintro e w17 ⟨rfl, hb⟩; refine ⟨_, rfl, ?_⟩; have n0_ := Aside0.mk (blk_below (g := gb101) (o := .cells #[.int .i64 a0_0, .int .i64 a0_1, .int .i64 a0_2, .slice A0_3 l0_3.length c0_3, .slice A0_4 l0_4.length c0_4, .slice A0_5 l0_5.length c0_5] 24 (0, 0)) (by (with_reducible repeat (first | refine blk_drewN ?_ _ | refine blk_drew ?_ | refine blk_alloc ?_ _)); exact BK101.out) hb); have n1_ := Aside0.mk (below_step (by repeat (first | (with_reducible first | exact HB.out | apply below_alloc | apply pw_below_drewN | apply below_drew1 | refine below_set ?_ GE101.out) | exact HB.out)) hb); clear BK101; clear HB; have BK101 := n0_; have HB := n1_; clear n0_ n1_; (try clear hb); (try clear hb2); (try clear hk); (try clear hi); have hcz18_0 : w17.cell? ⟨gb101, 0, none⟩ = some (.int .i64 a0_0) := (blk_cell BK101.out 0).trans rfl; have hcz18_1 : w17.cell? ⟨gb101, 1, none⟩ = some (.int .i64 a0_1) := (blk_cell BK101.out 1).trans rfl; have hcz18_2 : w17.cell? ⟨gb101, 2, none⟩ = some (.int .i64 a0_2) := (blk_cell BK101.out 2).trans rfl; have hcz18_3 : w17.cell? ⟨gb101, 3, none⟩ = some (.slice A0_3 l0_3.length c0_3) := (blk_cell BK101.out 3).trans rfl; have hcz18_4 : w17.cell? ⟨gb101, 4, none⟩ = some (.slice A0_4 l0_4.length c0_4) := (blk_cell BK101.out 4).trans rfl; have hcz18_5 : w17.cell? ⟨gb101, 5, none⟩ = some (.slice A0_5 l0_5.length c0_5) := (blk_cell BK101.out 5).trans rfl; have hfz18_0 := blk_frozen BK101.out 0; have hfz18_1 := blk_frozen BK101.out 1; have hfz18_2 := blk_frozen BK101.out 2; have hfz18_3 := blk_frozen BK101.out 3; have hfz18_4 := blk_frozen BK101.out 4; have hfz18_5 := blk_frozen BK101.out 5) | ((with_reducible refine gate_callee (f := 12) rfl ?_); refine goesL_ (some 13) rfl rfl Try.func12 (by kernel_rfl) rfl #[.agg #[.int .i64 a0_0, .int .i64 a0_1, .int .i64 a0_2, .slice A0_3 l0_3.length c0_3, .slice A0_4 l0_4.length c0_4, .slice A0_5 l0_5.length c0_5]] rfl (by (try simp only [List.map_toArray, List.map_cons, List.map_nil]); first | done | rfl | (simp only [List.length_drop, List.length_take]; rfl)) ?_; (with_reducible refine (laws_toSystem.calls k a0_0 a0_1 a0_2 _ _ l0_3 _ _ l0_4 _ _ l0_5 t103 t104 t105 t106 t109 t112 _ ?side1 ?side2 ?side3 ?side4 ?side5 ?side6 A7.out).mono ?_); (case side1 => repeat (first | exact (Kd.C_below HR0_3.out HB.out) | (with_reducible refine Kd.C_alloc ?_ _) | (with_reducible refine Kd.C_drewN ?_ _) | (with_reducible refine Kd.C_drew ?_))); (case side2 => exact HC0_3.out); (case side3 => repeat (first | exact (Kd.C_below HR0_4.out HB.out) | (with_reducible refine Kd.C_alloc ?_ _) | (with_reducible refine Kd.C_drewN ?_ _) | (with_reducible refine Kd.C_drew ?_))); (case side4 => exact HC0_4.out); (case side5 => repeat (first | exact (Kd.C_below HR0_5.out HB.out) | (with_reducible refine Kd.C_alloc ?_ _) | (with_reducible refine Kd.C_drewN ?_ _) | (with_reducible refine Kd.C_drew ?_))); (case side6 => exact HC0_5.out); rintro e w19 ⟨v107, v110, v113, rfl, ho0, ho1, ho2, hb⟩; refine ⟨_, rfl, ?_⟩; have n0_ := Aside0.mk (Kd.R_lower ho0 (below_size (by repeat (first | (with_reducible first | exact HB.out | apply below_alloc | apply pw_below_drewN | apply below_drew1 | refine below_set ?_ GE101.out) | exact HB.out)))); have n1_ := Aside0.mk (Kd.R_lower ho1 (below_size (by repeat (first | (with_reducible first | exact HB.out | apply below_alloc | apply pw_below_drewN | apply below_drew1 | refine below_set ?_ GE101.out) | exact HB.out)))); have n2_ := Aside0.mk (Kd.R_lower ho2 (below_size (by repeat (first | (with_reducible first | exact HB.out | apply below_alloc | apply pw_below_drewN | apply below_drew1 | refine below_set ?_ GE101.out) | exact HB.out)))); have n3_ := Aside0.mk (blk_below (g := gb101) (o := .cells #[.int .i64 a0_0, .int .i64 a0_1, .int .i64 a0_2, .slice A0_3 l0_3.length c0_3, .slice A0_4 l0_4.length c0_4, .slice A0_5 l0_5.length c0_5] 24 (0, 0)) (by (with_reducible repeat (first | refine blk_drewN ?_ _ | refine blk_drew ?_ | refine blk_alloc ?_ _)); exact BK101.out) hb); have n4_ := Aside0.mk (below_step (by repeat (first | (with_reducible first | exact HB.out | apply below_alloc | apply pw_below_drewN | apply below_drew1 | refine below_set ?_ GE101.out) | exact HB.out)) hb); clear BK101; clear HB; have HO108 := n0_; have HO111 := n1_; have HO114 := n2_; have BK101 := n3_; have HB := n4_; clear n0_ n1_ n2_ n3_ n4_; (try clear hb); (try clear hb2); (try clear hk); (try clear hi); (try clear ho0); (try clear ho1); (try clear ho2); obtain ⟨Ao20, co20, eo20⟩ := Kd.R_slice HO108.out; subst eo20; obtain ⟨Ao21, co21, eo21⟩ := Kd.R_slice HO111.out; subst eo21; obtain ⟨Ao22, co22, eo22⟩ := Kd.R_slice HO114.out; subst eo22) | ((with_reducible refine gate_callee (f := 11) rfl ?_); refine goesL_ (some 14) rfl rfl Try.func11 (by kernel_rfl) rfl #[.agg #[.int .i64 t103, .int .i64 t104, .int .i64 t105, .slice Ao20 t106.length co20, .slice Ao21 t109.length co21, .slice Ao22 t112.length co22]] rfl (by (try simp only [List.map_toArray, List.map_cons, List.map_nil]); first | done | rfl | (simp only [List.length_drop, List.length_take]; rfl)) ?_; (with_reducible refine (spec_SystemOK.calls k t103 t104 t105 _ _ t106 _ _ t109 _ _ t112 t115 _ ?side1 ?side2 ?side3 ?side4 ?side5 ?side6 A8.out).mono ?_); (case side1 => repeat (first | exact (Kd.R_reads' HO108.out).2.2 | (with_reducible refine Kd.C_alloc ?_ _) | (with_reducible refine Kd.C_drewN ?_ _) | (with_reducible refine Kd.C_drew ?_))); (case side2 => exact (Kd.R_reads' HO108.out).2.1); (case side3 => repeat (first | exact (Kd.R_reads' HO111.out).2.2 | (with_reducible refine Kd.C_alloc ?_ _) | (with_reducible refine Kd.C_drewN ?_ _) | (with_reducible refine Kd.C_drew ?_))); (case side4 => exact (Kd.R_reads' HO111.out).2.1); (case side5 => repeat (first | exact (Kd.R_reads' HO114.out).2.2 | (with_reducible refine Kd.C_alloc ?_ _) | (with_reducible refine Kd.C_drewN ?_ _) | (with_reducible refine Kd.C_drew ?_))); (case side6 => exact (Kd.R_reads' HO114.out).2.1); rintro e w23 ⟨rfl, hb⟩; refine ⟨_, rfl, ?_⟩; have n0_ := Aside0.mk (Kd.R_below (by (with_reducible repeat (first | apply Kd.R_alloc | apply Kd.R_drewN | apply Kd.R_drew)); exact HO108.out) hb); have n1_ := Aside0.mk (Kd.R_below (by (with_reducible repeat (first | apply Kd.R_alloc | apply Kd.R_drewN | apply Kd.R_drew)); exact HO111.out) hb); have n2_ := Aside0.mk (Kd.R_below (by (with_reducible repeat (first | apply Kd.R_alloc | apply Kd.R_drewN | apply Kd.R_drew)); exact HO114.out) hb); have n3_ := Aside0.mk (blk_below (g := gb101) (o := .cells #[.int .i64 a0_0, .int .i64 a0_1, .int .i64 a0_2, .slice A0_3 l0_3.length c0_3, .slice A0_4 l0_4.length c0_4, .slice A0_5 l0_5.length c0_5] 24 (0, 0)) (by (with_reducible repeat (first | refine blk_drewN ?_ _ | refine blk_drew ?_ | refine blk_alloc ?_ _)); exact BK101.out) hb); have n4_ := Aside0.mk (below_step (by repeat (first | (with_reducible first | exact HB.out | apply below_alloc | apply pw_below_drewN | apply below_drew1 | refine below_set ?_ GE101.out) | exact HB.out)) hb); clear HO108; clear HO111; clear HO114; clear BK101; clear HB; have HO108 := n0_; have HO111 := n1_; have HO114 := n2_; have BK101 := n3_; have HB := n4_; clear n0_ n1_ n2_ n3_ n4_; (try clear hb); (try clear hb2); (try clear hk); (try clear hi); have hcz24_0 : w23.cell? ⟨gb101, 0, none⟩ = some (.int .i64 a0_0) := (blk_cell BK101.out 0).trans rfl; have hcz24_1 : w23.cell? ⟨gb101, 1, none⟩ = some (.int .i64 a0_1) := (blk_cell BK101.out 1).trans rfl; have hcz24_2 : w23.cell? ⟨gb101, 2, none⟩ = some (.int .i64 a0_2) := (blk_cell BK101.out 2).trans rfl; have hcz24_3 : w23.cell? ⟨gb101, 3, none⟩ = some (.slice A0_3 l0_3.length c0_3) := (blk_cell BK101.out 3).trans rfl; have hcz24_4 : w23.cell? ⟨gb101, 4, none⟩ = some (.slice A0_4 l0_4.length c0_4) := (blk_cell BK101.out 4).trans rfl; have hcz24_5 : w23.cell? ⟨gb101, 5, none⟩ = some (.slice A0_5 l0_5.length c0_5) := (blk_cell BK101.out 5).trans rfl; have hfz24_0 := blk_frozen BK101.out 0; have hfz24_1 := blk_frozen BK101.out 1; have hfz24_2 := blk_frozen BK101.out 2; have hfz24_3 := blk_frozen BK101.out 3; have hfz24_4 := blk_frozen BK101.out 4; have hfz24_5 := blk_frozen BK101.out 5) | ((with_reducible refine gate_callee (f := 12) rfl ?_); refine goesL_ (some 16) rfl rfl Try.func12 (by kernel_rfl) rfl #[.agg #[.int .i64 a0_0, .int .i64 a0_1, .int .i64 a0_2, .slice A0_3 l0_3.length c0_3, .slice A0_4 l0_4.length c0_4, .slice A0_5 l0_5.length c0_5]] rfl (by (try simp only [List.map_toArray, List.map_cons, List.map_nil]); first | done | rfl | (simp only [List.length_drop, List.length_take]; rfl)) ?_; (with_reducible refine (laws_toSystem.calls k a0_0 a0_1 a0_2 _ _ l0_3 _ _ l0_4 _ _ l0_5 t116 t117 t118 t119 t122 t125 _ ?side1 ?side2 ?side3 ?side4 ?side5 ?side6 A9.out).mono ?_); (case side1 => repeat (first | exact (Kd.C_below HR0_3.out HB.out) | (with_reducible refine Kd.C_alloc ?_ _) | (with_reducible refine Kd.C_drewN ?_ _) | (with_reducible refine Kd.C_drew ?_))); (case side2 => exact HC0_3.out); (case side3 => repeat (first | exact (Kd.C_below HR0_4.out HB.out) | (with_reducible refine Kd.C_alloc ?_ _) | (with_reducible refine Kd.C_drewN ?_ _) | (with_reducible refine Kd.C_drew ?_))); (case side4 => exact HC0_4.out); (case side5 => repeat (first | exact (Kd.C_below HR0_5.out HB.out) | (with_reducible refine Kd.C_alloc ?_ _) | (with_reducible refine Kd.C_drewN ?_ _) | (with_reducible refine Kd.C_drew ?_))); (case side6 => exact HC0_5.out); rintro e w25 ⟨v120, v123, v126, rfl, ho0, ho1, ho2, hb⟩; refine ⟨_, rfl, ?_⟩; have n0_ := Aside0.mk (Kd.R_mono (Kd.R_told (Kd.R_told (Kd.R_told (Kd.R_old (by (with_reducible repeat (first | apply Kd.R_alloc | apply Kd.R_drewN | apply Kd.R_drew)); exact HO108.out) hb) (Kd.R_base ho0)) (Kd.R_base ho1)) (Kd.R_base ho2)) (fun _ h_ => h_.1)); have n1_ := Aside0.mk (Kd.R_mono (Kd.R_told (Kd.R_told (Kd.R_told (Kd.R_old (by (with_reducible repeat (first | apply Kd.R_alloc | apply Kd.R_drewN | apply Kd.R_drew)); exact HO111.out) hb) (Kd.R_base ho0)) (Kd.R_base ho1)) (Kd.R_base ho2)) (fun _ h_ => h_.1)); have n2_ := Aside0.mk (Kd.R_mono (Kd.R_told (Kd.R_told (Kd.R_told (Kd.R_old (by (with_reducible repeat (first | apply Kd.R_alloc | apply Kd.R_drewN | apply Kd.R_drew)); exact HO114.out) hb) (Kd.R_base ho0)) (Kd.R_base ho1)) (Kd.R_base ho2)) (fun _ h_ => h_.1)); have n3_ := Aside0.mk (Kd.R_lower (Kd.R_new' (Kd.R_new' (Kd.R_new' ho0 (Kd.R_lt (by (with_reducible repeat (first | apply Kd.R_alloc | apply Kd.R_drewN | apply Kd.R_drew)); exact HO108.out))) (Kd.R_lt (by (with_reducible repeat (first | apply Kd.R_alloc | apply Kd.R_drewN | apply Kd.R_drew)); exact HO111.out))) (Kd.R_lt (by (with_reducible repeat (first | apply Kd.R_alloc | apply Kd.R_drewN | apply Kd.R_drew)); exact HO114.out))) (below_size (by repeat (first | (with_reducible first | exact HB.out | apply below_alloc | apply pw_below_drewN | apply below_drew1 | refine below_set ?_ GE101.out) | exact HB.out)))); have n4_ := Aside0.mk (Kd.R_lower (Kd.R_new' (Kd.R_new' (Kd.R_new' ho1 (Kd.R_lt (by (with_reducible repeat (first | apply Kd.R_alloc | apply Kd.R_drewN | apply Kd.R_drew)); exact HO108.out))) (Kd.R_lt (by (with_reducible repeat (first | apply Kd.R_alloc | apply Kd.R_drewN | apply Kd.R_drew)); exact HO111.out))) (Kd.R_lt (by (with_reducible repeat (first | apply Kd.R_alloc | apply Kd.R_drewN | apply Kd.R_drew)); exact HO114.out))) (below_size (by repeat (first | (with_reducible first | exact HB.out | apply below_alloc | apply pw_below_drewN | apply below_drew1 | refine below_set ?_ GE101.out) | exact HB.out)))); have n5_ := Aside0.mk (Kd.R_lower (Kd.R_new' (Kd.R_new' (Kd.R_new' ho2 (Kd.R_lt (by (with_reducible repeat (first | apply Kd.R_alloc | apply Kd.R_drewN | apply Kd.R_drew)); exact HO108.out))) (Kd.R_lt (by (with_reducible repeat (first | apply Kd.R_alloc | apply Kd.R_drewN | apply Kd.R_drew)); exact HO111.out))) (Kd.R_lt (by (with_reducible repeat (first | apply Kd.R_alloc | apply Kd.R_drewN | apply Kd.R_drew)); exact HO114.out))) (below_size (by repeat (first | (with_reducible first | exact HB.out | apply below_alloc | apply pw_below_drewN | apply below_drew1 | refine below_set ?_ GE101.out) | exact HB.out)))); have n6_ := Aside0.mk (blk_below (g := gb101) (o := .cells #[.int .i64 a0_0, .int .i64 a0_1, .int .i64 a0_2, .slice A0_3 l0_3.length c0_3, .slice A0_4 l0_4.length c0_4, .slice A0_5 l0_5.length c0_5] 24 (0, 0)) (by (with_reducible repeat (first | refine blk_drewN ?_ _ | refine blk_drew ?_ | refine blk_alloc ?_ _)); exact BK101.out) hb); have n7_ := Aside0.mk (below_step (by repeat (first | (with_reducible first | exact HB.out | apply below_alloc | apply pw_below_drewN | apply below_drew1 | refine below_set ?_ GE101.out) | exact HB.out)) hb); clear HO108; clear HO111; clear HO114; clear BK101; clear HB; have HO108 := n0_; have HO111 := n1_; have HO114 := n2_; have HO121 := n3_; have HO124 := n4_; have HO127 := n5_; have BK101 := n6_; have HB := n7_; clear n0_ n1_ n2_ n3_ n4_ n5_ n6_ n7_; (try clear hb); (try clear hb2); (try clear hk); (try clear hi); (try clear ho0); (try clear ho1); (try clear ho2)) | ((with_reducible refine gate_dst (N := 5) rfl ?_); refine box_event ?hg (N := 5) ?hd (cs := #[.int .i64 0, .int .i64 0, .int .i64 0, .slice none 0 0, .slice none 0 0, .slice none 0 0]) (t := 29) ?hr ?_; (case hd => rfl); (case hg => rfl); (case hr => first | (go_simp; done) | (go_simp; rfl)); intro gb128 hg w26 hbox hb; have n0_ := Aside0.mk (Kd.R_below (by (with_reducible repeat (first | apply Kd.R_alloc | apply Kd.R_drewN | apply Kd.R_drew)); exact HO108.out) hb); have n1_ := Aside0.mk (Kd.R_below (by (with_reducible repeat (first | apply Kd.R_alloc | apply Kd.R_drewN | apply Kd.R_drew)); exact HO111.out) hb); have n2_ := Aside0.mk (Kd.R_below (by (with_reducible repeat (first | apply Kd.R_alloc | apply Kd.R_drewN | apply Kd.R_drew)); exact HO114.out) hb); have n3_ := Aside0.mk (Kd.R_below (by (with_reducible repeat (first | apply Kd.R_alloc | apply Kd.R_drewN | apply Kd.R_drew)); exact HO121.out) hb); have n4_ := Aside0.mk (Kd.R_below (by (with_reducible repeat (first | apply Kd.R_alloc | apply Kd.R_drewN | apply Kd.R_drew)); exact HO124.out) hb); have n5_ := Aside0.mk (Kd.R_below (by (with_reducible repeat (first | apply Kd.R_alloc | apply Kd.R_drewN | apply Kd.R_drew)); exact HO127.out) hb); have n6_ := Aside0.mk (blk_below (g := gb101) (o := .cells #[.int .i64 a0_0, .int .i64 a0_1, .int .i64 a0_2, .slice A0_3 l0_3.length c0_3, .slice A0_4 l0_4.length c0_4, .slice A0_5 l0_5.length c0_5] 24 (0, 0)) (by (with_reducible repeat (first | refine blk_drewN ?_ _ | refine blk_drew ?_ | refine blk_alloc ?_ _)); exact BK101.out) hb); have n7_ := Aside0.mk (below_step (by repeat (first | (with_reducible first | exact HB.out | apply below_alloc | apply pw_below_drewN | apply below_drew1 | refine below_set ?_ GE101.out) | exact HB.out)) hb); have n8_ := Aside0.mk (hbox); have n9_ := Aside0.mk ((by rw [hg]; exact (below_size (by repeat (first | (with_reducible first | exact HB.out | apply below_alloc | apply pw_below_drewN | apply below_drew1 | refine below_set ?_ GE101.out) | exact HB.out))) : w.heap.size ≤ gb128)); have n10_ := Aside0.mk ((by rw [hg]; exact (below_size (by repeat (first | (with_reducible first | exact HB.out | apply below_alloc | apply pw_below_drewN | apply below_drew1 | refine below_set ?_ GE101.out) | exact HB.out))) : w.heap.size ≤ gb128)); have n11_ := Aside0.mk ((by rw [hg]; exact Nat.ne_of_lt (blk_lt (g := gb101) (o := .cells #[.int .i64 a0_0, .int .i64 a0_1, .int .i64 a0_2, .slice A0_3 l0_3.length c0_3, .slice A0_4 l0_4.length c0_4, .slice A0_5 l0_5.length c0_5] 24 (0, 0)) (by (with_reducible repeat (first | refine blk_drewN ?_ _ | refine blk_drew ?_ | refine blk_alloc ?_ _)); exact BK101.out)) : gb101 ≠ gb128)); have n12_ := Aside0.mk ((by rw [hg]; exact Nat.ne_of_gt (blk_lt (g := gb101) (o := .cells #[.int .i64 a0_0, .int .i64 a0_1, .int .i64 a0_2, .slice A0_3 l0_3.length c0_3, .slice A0_4 l0_4.length c0_4, .slice A0_5 l0_5.length c0_5] 24 (0, 0)) (by (with_reducible repeat (first | refine blk_drewN ?_ _ | refine blk_drew ?_ | refine blk_alloc ?_ _)); exact BK101.out)) : gb128 ≠ gb101)); clear HO108; clear HO111; clear HO114; clear HO121; clear HO124; clear HO127; clear BK101; clear HB; have HO108 := n0_; have HO111 := n1_; have HO114 := n2_; have HO121 := n3_; have HO124 := n4_; have HO127 := n5_; have BK101 := n6_; have HB := n7_; have BK128 := n8_; have GW128 := n9_; have GE128 := n10_; have NB101_128 := n11_; have NB128_101 := n12_; clear n0_ n1_ n2_ n3_ n4_ n5_ n6_ n7_ n8_ n9_ n10_ n11_ n12_; clear hb hbox hg; have hnb27 := NB128_101.out; have hnc27 := NB101_128.out; have hcz28_0 : w26.cell? ⟨gb128, 0, none⟩ = some (.int .i64 0) := (blk_cell BK128.out 0).trans rfl; have hcz28_1 : w26.cell? ⟨gb128, 1, none⟩ = some (.int .i64 0) := (blk_cell BK128.out 1).trans rfl; have hcz28_2 : w26.cell? ⟨gb128, 2, none⟩ = some (.int .i64 0) := (blk_cell BK128.out 2).trans rfl; have hcz28_3 : w26.cell? ⟨gb128, 3, none⟩ = some (.slice none 0 0) := (blk_cell BK128.out 3).trans rfl; have hcz28_4 : w26.cell? ⟨gb128, 4, none⟩ = some (.slice none 0 0) := (blk_cell BK128.out 4).trans rfl; have hcz28_5 : w26.cell? ⟨gb128, 5, none⟩ = some (.slice none 0 0) := (blk_cell BK128.out 5).trans rfl; have hfz28_0 := blk_frozen BK128.out 0; have hfz28_1 := blk_frozen BK128.out 1; have hfz28_2 := blk_frozen BK128.out 2; have hfz28_3 := blk_frozen BK128.out 3; have hfz28_4 := blk_frozen BK128.out 4; have hfz28_5 := blk_frozen BK128.out 5; obtain ⟨Ao29, co29, eo29⟩ := Kd.R_slice HO121.out; subst eo29; obtain ⟨Ao30, co30, eo30⟩ := Kd.R_slice HO124.out; subst eo30; obtain ⟨Ao31, co31, eo31⟩ := Kd.R_slice HO127.out; subst eo31) | ((with_reducible refine gate_callee (f := 13) rfl ?_); refine goesL_ (some 18) rfl rfl Try.func13 (by kernel_rfl) rfl #[.agg #[.int .i64 t116, .int .i64 t117, .int .i64 t118, .slice Ao29 t119.length co29, .slice Ao30 t122.length co30, .slice Ao31 t125.length co31]] rfl (by (try simp only [List.map_toArray, List.map_cons, List.map_nil]); first | done | rfl | (simp only [List.length_drop, List.length_take]; rfl)) ?_; (with_reducible refine (impl_SystemOK.calls k t116 t117 t118 _ _ t119 _ _ t122 _ _ t125 t129 _ ?side1 ?side2 ?side3 ?side4 ?side5 ?side6 A10.out).mono ?_); (case side1 => refine (Kd.R_reads' (e := 53) (base := w.heap.size) (ok := fun k_ => ((((some k_ ≠ (.slice Ao30 t122.length co30 : Value).ownBlock ∧ some k_ ≠ (.slice Ao31 t125.length co31 : Value).ownBlock) ∧ some k_ ≠ (.slice Ao20 t106.length co20 : Value).ownBlock) ∧ some k_ ≠ (.slice Ao21 t109.length co21 : Value).ownBlock) ∧ some k_ ≠ (.slice Ao22 t112.length co22 : Value).ownBlock)) (n := t119.length) (c := co29) ?_).2.2; exact (by (with_reducible repeat (first | apply Kd.R_alloc | apply Kd.R_drewN | apply Kd.R_drew)); exact (Kd.R_mono (Kd.R_far (p := ⟨gb128, 5, none⟩) (Kd.R_far (p := ⟨gb128, 4, none⟩) (Kd.R_far (p := ⟨gb128, 3, none⟩) (Kd.R_far (p := ⟨gb128, 2, none⟩) (Kd.R_far (p := ⟨gb128, 1, none⟩) (Kd.R_far (p := ⟨gb128, 0, none⟩) (Kd.R_types HO121.out BK128.out (by decide)) (fun _ hk => hk.2) (.int .i64 t116)) (fun _ hk => hk.2) (.int .i64 t117)) (fun _ hk => hk.2) (.int .i64 t118)) (fun _ hk => hk.2) (.slice Ao29 t119.length co29)) (fun _ hk => hk.2) (.slice Ao30 t122.length co30)) (fun _ hk => hk.2) (.slice Ao31 t125.length co31)) (fun _ h_ => h_.1)))); (case side2 => exact (Kd.R_reads' HO121.out).2.1); (case side3 => refine (Kd.R_reads' (e := 53) (base := w.heap.size) (ok := fun k_ => ((((some k_ ≠ (.slice Ao29 t119.length co29 : Value).ownBlock ∧ some k_ ≠ (.slice Ao31 t125.length co31 : Value).ownBlock) ∧ some k_ ≠ (.slice Ao20 t106.length co20 : Value).ownBlock) ∧ some k_ ≠ (.slice Ao21 t109.length co21 : Value).ownBlock) ∧ some k_ ≠ (.slice Ao22 t112.length co22 : Value).ownBlock)) (n := t122.length) (c := co30) ?_).2.2; exact (by (with_reducible repeat (first | apply Kd.R_alloc | apply Kd.R_drewN | apply Kd.R_drew)); exact (Kd.R_mono (Kd.R_far (p := ⟨gb128, 5, none⟩) (Kd.R_far (p := ⟨gb128, 4, none⟩) (Kd.R_far (p := ⟨gb128, 3, none⟩) (Kd.R_far (p := ⟨gb128, 2, none⟩) (Kd.R_far (p := ⟨gb128, 1, none⟩) (Kd.R_far (p := ⟨gb128, 0, none⟩) (Kd.R_types HO124.out BK128.out (by decide)) (fun _ hk => hk.2) (.int .i64 t116)) (fun _ hk => hk.2) (.int .i64 t117)) (fun _ hk => hk.2) (.int .i64 t118)) (fun _ hk => hk.2) (.slice Ao29 t119.length co29)) (fun _ hk => hk.2) (.slice Ao30 t122.length co30)) (fun _ hk => hk.2) (.slice Ao31 t125.length co31)) (fun _ h_ => h_.1)))); (case side4 => exact (Kd.R_reads' HO124.out).2.1); (case side5 => refine (Kd.R_reads' (e := 53) (base := w.heap.size) (ok := fun k_ => ((((some k_ ≠ (.slice Ao29 t119.length co29 : Value).ownBlock ∧ some k_ ≠ (.slice Ao30 t122.length co30 : Value).ownBlock) ∧ some k_ ≠ (.slice Ao20 t106.length co20 : Value).ownBlock) ∧ some k_ ≠ (.slice Ao21 t109.length co21 : Value).ownBlock) ∧ some k_ ≠ (.slice Ao22 t112.length co22 : Value).ownBlock)) (n := t125.length) (c := co31) ?_).2.2; exact (by (with_reducible repeat (first | apply Kd.R_alloc | apply Kd.R_drewN | apply Kd.R_drew)); exact (Kd.R_mono (Kd.R_far (p := ⟨gb128, 5, none⟩) (Kd.R_far (p := ⟨gb128, 4, none⟩) (Kd.R_far (p := ⟨gb128, 3, none⟩) (Kd.R_far (p := ⟨gb128, 2, none⟩) (Kd.R_far (p := ⟨gb128, 1, none⟩) (Kd.R_far (p := ⟨gb128, 0, none⟩) (Kd.R_types HO127.out BK128.out (by decide)) (fun _ hk => hk.2) (.int .i64 t116)) (fun _ hk => hk.2) (.int .i64 t117)) (fun _ hk => hk.2) (.int .i64 t118)) (fun _ hk => hk.2) (.slice Ao29 t119.length co29)) (fun _ hk => hk.2) (.slice Ao30 t122.length co30)) (fun _ hk => hk.2) (.slice Ao31 t125.length co31)) (fun _ h_ => h_.1)))); (case side6 => exact (Kd.R_reads' HO127.out).2.1); rintro e w32 ⟨rfl, hb⟩; refine ⟨_, rfl, ?_⟩; have n0_ := Aside0.mk (Kd.R_below (by (with_reducible repeat (first | apply Kd.R_alloc | apply Kd.R_drewN | apply Kd.R_drew)); exact (Kd.R_mono (Kd.R_far (p := ⟨gb128, 5, none⟩) (Kd.R_far (p := ⟨gb128, 4, none⟩) (Kd.R_far (p := ⟨gb128, 3, none⟩) (Kd.R_far (p := ⟨gb128, 2, none⟩) (Kd.R_far (p := ⟨gb128, 1, none⟩) (Kd.R_far (p := ⟨gb128, 0, none⟩) (Kd.R_types HO108.out BK128.out (by decide)) (fun _ hk => hk.2) (.int .i64 t116)) (fun _ hk => hk.2) (.int .i64 t117)) (fun _ hk => hk.2) (.int .i64 t118)) (fun _ hk => hk.2) (.slice Ao29 t119.length co29)) (fun _ hk => hk.2) (.slice Ao30 t122.length co30)) (fun _ hk => hk.2) (.slice Ao31 t125.length co31)) (fun _ h_ => h_.1))) hb); have n1_ := Aside0.mk (Kd.R_below (by (with_reducible repeat (first | apply Kd.R_alloc | apply Kd.R_drewN | apply Kd.R_drew)); exact (Kd.R_mono (Kd.R_far (p := ⟨gb128, 5, none⟩) (Kd.R_far (p := ⟨gb128, 4, none⟩) (Kd.R_far (p := ⟨gb128, 3, none⟩) (Kd.R_far (p := ⟨gb128, 2, none⟩) (Kd.R_far (p := ⟨gb128, 1, none⟩) (Kd.R_far (p := ⟨gb128, 0, none⟩) (Kd.R_types HO111.out BK128.out (by decide)) (fun _ hk => hk.2) (.int .i64 t116)) (fun _ hk => hk.2) (.int .i64 t117)) (fun _ hk => hk.2) (.int .i64 t118)) (fun _ hk => hk.2) (.slice Ao29 t119.length co29)) (fun _ hk => hk.2) (.slice Ao30 t122.length co30)) (fun _ hk => hk.2) (.slice Ao31 t125.length co31)) (fun _ h_ => h_.1))) hb); have n2_ := Aside0.mk (Kd.R_below (by (with_reducible repeat (first | apply Kd.R_alloc | apply Kd.R_drewN | apply Kd.R_drew)); exact (Kd.R_mono (Kd.R_far (p := ⟨gb128, 5, none⟩) (Kd.R_far (p := ⟨gb128, 4, none⟩) (Kd.R_far (p := ⟨gb128, 3, none⟩) (Kd.R_far (p := ⟨gb128, 2, none⟩) (Kd.R_far (p := ⟨gb128, 1, none⟩) (Kd.R_far (p := ⟨gb128, 0, none⟩) (Kd.R_types HO114.out BK128.out (by decide)) (fun _ hk => hk.2) (.int .i64 t116)) (fun _ hk => hk.2) (.int .i64 t117)) (fun _ hk => hk.2) (.int .i64 t118)) (fun _ hk => hk.2) (.slice Ao29 t119.length co29)) (fun _ hk => hk.2) (.slice Ao30 t122.length co30)) (fun _ hk => hk.2) (.slice Ao31 t125.length co31)) (fun _ h_ => h_.1))) hb); have n3_ := Aside0.mk (Kd.R_below (by (with_reducible repeat (first | apply Kd.R_alloc | apply Kd.R_drewN | apply Kd.R_drew)); exact (Kd.R_mono (Kd.R_far (p := ⟨gb128, 5, none⟩) (Kd.R_far (p := ⟨gb128, 4, none⟩) (Kd.R_far (p := ⟨gb128, 3, none⟩) (Kd.R_far (p := ⟨gb128, 2, none⟩) (Kd.R_far (p := ⟨gb128, 1, none⟩) (Kd.R_far (p := ⟨gb128, 0, none⟩) (Kd.R_types HO121.out BK128.out (by decide)) (fun _ hk => hk.2) (.int .i64 t116)) (fun _ hk => hk.2) (.int .i64 t117)) (fun _ hk => hk.2) (.int .i64 t118)) (fun _ hk => hk.2) (.slice Ao29 t119.length co29)) (fun _ hk => hk.2) (.slice Ao30 t122.length co30)) (fun _ hk => hk.2) (.slice Ao31 t125.length co31)) (fun _ h_ => h_.1))) hb); have n4_ := Aside0.mk (Kd.R_below (by (with_reducible repeat (first | apply Kd.R_alloc | apply Kd.R_drewN | apply Kd.R_drew)); exact (Kd.R_mono (Kd.R_far (p := ⟨gb128, 5, none⟩) (Kd.R_far (p := ⟨gb128, 4, none⟩) (Kd.R_far (p := ⟨gb128, 3, none⟩) (Kd.R_far (p := ⟨gb128, 2, none⟩) (Kd.R_far (p := ⟨gb128, 1, none⟩) (Kd.R_far (p := ⟨gb128, 0, none⟩) (Kd.R_types HO124.out BK128.out (by decide)) (fun _ hk => hk.2) (.int .i64 t116)) (fun _ hk => hk.2) (.int .i64 t117)) (fun _ hk => hk.2) (.int .i64 t118)) (fun _ hk => hk.2) (.slice Ao29 t119.length co29)) (fun _ hk => hk.2) (.slice Ao30 t122.length co30)) (fun _ hk => hk.2) (.slice Ao31 t125.length co31)) (fun _ h_ => h_.1))) hb); have n5_ := Aside0.mk (Kd.R_below (by (with_reducible repeat (first | apply Kd.R_alloc | apply Kd.R_drewN | apply Kd.R_drew)); exact (Kd.R_mono (Kd.R_far (p := ⟨gb128, 5, none⟩) (Kd.R_far (p := ⟨gb128, 4, none⟩) (Kd.R_far (p := ⟨gb128, 3, none⟩) (Kd.R_far (p := ⟨gb128, 2, none⟩) (Kd.R_far (p := ⟨gb128, 1, none⟩) (Kd.R_far (p := ⟨gb128, 0, none⟩) (Kd.R_types HO127.out BK128.out (by decide)) (fun _ hk => hk.2) (.int .i64 t116)) (fun _ hk => hk.2) (.int .i64 t117)) (fun _ hk => hk.2) (.int .i64 t118)) (fun _ hk => hk.2) (.slice Ao29 t119.length co29)) (fun _ hk => hk.2) (.slice Ao30 t122.length co30)) (fun _ hk => hk.2) (.slice Ao31 t125.length co31)) (fun _ h_ => h_.1))) hb); have n6_ := Aside0.mk (blk_below (g := gb101) (o := .cells #[.int .i64 a0_0, .int .i64 a0_1, .int .i64 a0_2, .slice A0_3 l0_3.length c0_3, .slice A0_4 l0_4.length c0_4, .slice A0_5 l0_5.length c0_5] 24 (0, 0)) (by (with_reducible repeat (first | refine blk_drewN ?_ _ | refine blk_drew ?_ | refine blk_alloc ?_ _)); refine blk_far ?_ NB101_128.out _; (with_reducible repeat (first | refine blk_drewN ?_ _ | refine blk_drew ?_ | refine blk_alloc ?_ _)); refine blk_far ?_ NB101_128.out _; (with_reducible repeat (first | refine blk_drewN ?_ _ | refine blk_drew ?_ | refine blk_alloc ?_ _)); refine blk_far ?_ NB101_128.out _; (with_reducible repeat (first | refine blk_drewN ?_ _ | refine blk_drew ?_ | refine blk_alloc ?_ _)); refine blk_far ?_ NB101_128.out _; (with_reducible repeat (first | refine blk_drewN ?_ _ | refine blk_drew ?_ | refine blk_alloc ?_ _)); refine blk_far ?_ NB101_128.out _; (with_reducible repeat (first | refine blk_drewN ?_ _ | refine blk_drew ?_ | refine blk_alloc ?_ _)); refine blk_far ?_ NB101_128.out _; (with_reducible repeat (first | refine blk_drewN ?_ _ | refine blk_drew ?_ | refine blk_alloc ?_ _)); exact BK101.out) hb); have n7_ := Aside0.mk (blk_below (g := gb128) (o := .cells #[.int .i64 t116, .int .i64 t117, .int .i64 t118, .slice Ao29 t119.length co29, .slice Ao30 t122.length co30, .slice Ao31 t125.length co31] 29 (0, 0)) (by (with_reducible repeat (first | refine blk_drewN ?_ _ | refine blk_drew ?_ | refine blk_alloc ?_ _)); refine blk_put (cs := #[.int .i64 t116, .int .i64 t117, .int .i64 t118, .slice Ao29 t119.length co29, .slice Ao30 t122.length co30, .slice none 0 0]) ?_ 5 _ rfl; (with_reducible repeat (first | refine blk_drewN ?_ _ | refine blk_drew ?_ | refine blk_alloc ?_ _)); refine blk_put (cs := #[.int .i64 t116, .int .i64 t117, .int .i64 t118, .slice Ao29 t119.length co29, .slice none 0 0, .slice none 0 0]) ?_ 4 _ rfl; (with_reducible repeat (first | refine blk_drewN ?_ _ | refine blk_drew ?_ | refine blk_alloc ?_ _)); refine blk_put (cs := #[.int .i64 t116, .int .i64 t117, .int .i64 t118, .slice none 0 0, .slice none 0 0, .slice none 0 0]) ?_ 3 _ rfl; (with_reducible repeat (first | refine blk_drewN ?_ _ | refine blk_drew ?_ | refine blk_alloc ?_ _)); refine blk_put (cs := #[.int .i64 t116, .int .i64 t117, .int .i64 0, .slice none 0 0, .slice none 0 0, .slice none 0 0]) ?_ 2 _ rfl; (with_reducible repeat (first | refine blk_drewN ?_ _ | refine blk_drew ?_ | refine blk_alloc ?_ _)); refine blk_put (cs := #[.int .i64 t116, .int .i64 0, .int .i64 0, .slice none 0 0, .slice none 0 0, .slice none 0 0]) ?_ 1 _ rfl; (with_reducible repeat (first | refine blk_drewN ?_ _ | refine blk_drew ?_ | refine blk_alloc ?_ _)); refine blk_put (cs := #[.int .i64 0, .int .i64 0, .int .i64 0, .slice none 0 0, .slice none 0 0, .slice none 0 0]) ?_ 0 _ rfl; (with_reducible repeat (first | refine blk_drewN ?_ _ | refine blk_drew ?_ | refine blk_alloc ?_ _)); exact BK128.out) hb); have n8_ := Aside0.mk (below_step (by repeat (first | (with_reducible first | exact HB.out | apply below_alloc | apply pw_below_drewN | apply below_drew1 | refine below_set ?_ GE101.out | refine below_set ?_ GE128.out) | exact HB.out)) hb); clear HO108; clear HO111; clear HO114; clear HO121; clear HO124; clear HO127; clear BK101; clear BK128; clear HB; have HO108 := n0_; have HO111 := n1_; have HO114 := n2_; have HO121 := n3_; have HO124 := n4_; have HO127 := n5_; have BK101 := n6_; have BK128 := n7_; have HB := n8_; clear n0_ n1_ n2_ n3_ n4_ n5_ n6_ n7_ n8_; (try clear hb); (try clear hb2); (try clear hk); (try clear hi)))
        have n0_ := Aside0.mk (Kd.R_drew HO108.out)
        have n1_ := Aside0.mk (Kd.R_drew HO111.out)
        have n2_ := Aside0.mk (Kd.R_drew HO114.out)
        have n3_ := Aside0.mk (Kd.R_drew HO121.out)
        have n4_ := Aside0.mk (Kd.R_drew HO124.out)
        have n5_ := Aside0.mk (Kd.R_drew HO127.out)
        have n6_ := Aside0.mk (blk_drew BK101.out)
        have n7_ := Aside0.mk (blk_drew BK128.out)
        have n8_ := Aside0.mk (below_drew1 HB.out)
        clear HO108
        clear HO111
        clear HO114
        clear HO121
        clear HO124
        clear HO127
        clear BK101
        clear BK128
        clear HB
        have HO108 := n0_
        have HO111 := n1_
        have HO114 := n2_
        have HO121 := n3_
        have HO124 := n4_
        have HO127 := n5_
        have BK101 := n6_
        have BK128 := n7_
        have HB := n8_
        clear n0_ n1_ n2_ n3_ n4_ n5_ n6_ n7_ n8_
        refine start_ (n := 5) (S := fun w' => w'.cell? ⟨gb128, 0, none⟩ = some (.int .i64 t116) ∧ w'.cell? ⟨gb128, 1, none⟩ = some (.int .i64 t117) ∧ w'.cell? ⟨gb128, 2, none⟩ = some (.int .i64 t118) ∧ w'.cell? ⟨gb128, 3, none⟩ = some (.slice Ao29 t119.length co29) ∧ w'.cell? ⟨gb128, 4, none⟩ = some (.slice Ao30 t122.length co30) ∧ w'.cell? ⟨gb128, 5, none⟩ = some (.slice Ao31 t125.length co31) ∧ w'.cell? ⟨gb101, 0, none⟩ = some (.int .i64 a0_0) ∧ w'.cell? ⟨gb101, 1, none⟩ = some (.int .i64 a0_1) ∧ w'.cell? ⟨gb101, 2, none⟩ = some (.int .i64 a0_2) ∧ w'.cell? ⟨gb101, 3, none⟩ = some (.slice A0_3 l0_3.length c0_3) ∧ w'.cell? ⟨gb101, 4, none⟩ = some (.slice A0_4 l0_4.length c0_4) ∧ w'.cell? ⟨gb101, 5, none⟩ = some (.slice A0_5 l0_5.length c0_5)) (ds := []) #[false, false, false, false, false] (by kernel_rfl) rfl rfl ⟨(blk_cell BK128.out 0).trans rfl, (blk_cell BK128.out 1).trans rfl, (blk_cell BK128.out 2).trans rfl, (blk_cell BK128.out 3).trans rfl, (blk_cell BK128.out 4).trans rfl, (blk_cell BK128.out 5).trans rfl, (blk_cell BK101.out 0).trans rfl, (blk_cell BK101.out 1).trans rfl, (blk_cell BK101.out 2).trans rfl, (blk_cell BK101.out 3).trans rfl, (blk_cell BK101.out 4).trans rfl, (blk_cell BK101.out 5).trans rfl⟩ (fun hHeld => ?_)
        generalize w32.drew = w33 at HO108 HO111 HO114 HO121 HO124 HO127 BK101 BK128 HB hHeld ⊢
        refine take_ (i := 0) (N := some 22) (v := ?_) (a' := ?_) #[true, false, false, false, false] rfl rfl (by kernel_rfl) (fun _ _ _ h => h) (Or.inl ⟨by rfl, ?_⟩) hHeld ?_ ?_
        rotate_left
        · rintro w' ⟨s0, s1, s2, s3, s4, s5, s6, s7, s8, s9, s10, s11⟩
          go_simp
          with_reducible rfl
        rotate_left
        · simp only [Act.put, List.setIfInBounds_toArray, List.set_cons_zero, List.set_cons_succ, i64_w, i32_w]
          rfl
        refine take_ (i := 1) (N := some 23) (v := ?_) (a' := ?_) #[true, true, false, false, false] rfl rfl (by kernel_rfl) (fun _ _ _ h => h) (Or.inl ⟨by rfl, ?_⟩) hHeld ?_ ?_
        rotate_left
        · rintro w' ⟨s0, s1, s2, s3, s4, s5, s6, s7, s8, s9, s10, s11⟩
          go_simp
          with_reducible rfl
        rotate_left
        · simp only [Act.put, List.setIfInBounds_toArray, List.set_cons_zero, List.set_cons_succ, i64_w, i32_w]
          rfl
        refine one_ (i := 2) (N := some 24) #[true, true, true, false, false] rfl rfl (by kernel_rfl) (by decide) (fun K hK => ?_)
        refine goes_ Try.func12 (by kernel_rfl) rfl #[.agg #[.int .i64 a0_0, .int .i64 a0_1, .int .i64 a0_2, .slice A0_3 l0_3.length c0_3, .slice A0_4 l0_4.length c0_4, .slice A0_5 l0_5.length c0_5]] (by rfl) rfl rfl (by (try simp only [List.map_toArray, List.map_cons, List.map_nil]); first | done | rfl | (simp only [List.length_drop, List.length_take]; rfl)) ?_
        with_reducible refine (laws_toSystem.calls k a0_0 a0_1 a0_2 _ _ l0_3 _ _ l0_4 _ _ l0_5 t130 t131 t132 t133 t136 t139 _ ?side1 ?side2 ?side3 ?side4 ?side5 ?side6 A12.out).mono ?_
        (case side1 => repeat (first | exact (Kd.C_below HR0_3.out HB.out) | (with_reducible refine Kd.C_alloc ?_ _) | (with_reducible refine Kd.C_drewN ?_ _) | (with_reducible refine Kd.C_drew ?_)))
        (case side2 => exact HC0_3.out)
        (case side3 => repeat (first | exact (Kd.C_below HR0_4.out HB.out) | (with_reducible refine Kd.C_alloc ?_ _) | (with_reducible refine Kd.C_drewN ?_ _) | (with_reducible refine Kd.C_drew ?_)))
        (case side4 => exact HC0_4.out)
        (case side5 => repeat (first | exact (Kd.C_below HR0_5.out HB.out) | (with_reducible refine Kd.C_alloc ?_ _) | (with_reducible refine Kd.C_drewN ?_ _) | (with_reducible refine Kd.C_drew ?_)))
        (case side6 => exact HC0_5.out)
        rintro e w34 ⟨v134, v137, v140, rfl, ho0, ho1, ho2, hb⟩
        refine ⟨_, rfl, ?_⟩
        have n0_ := Aside0.mk (Kd.R_mono (Kd.R_told (Kd.R_told (Kd.R_told (Kd.R_old (by (with_reducible repeat (first | apply Kd.R_alloc | apply Kd.R_drewN | apply Kd.R_drew)); exact HO108.out) hb) (Kd.R_base ho0)) (Kd.R_base ho1)) (Kd.R_base ho2)) (fun _ h_ => h_.1))
        have n1_ := Aside0.mk (Kd.R_mono (Kd.R_told (Kd.R_told (Kd.R_told (Kd.R_old (by (with_reducible repeat (first | apply Kd.R_alloc | apply Kd.R_drewN | apply Kd.R_drew)); exact HO111.out) hb) (Kd.R_base ho0)) (Kd.R_base ho1)) (Kd.R_base ho2)) (fun _ h_ => h_.1))
        have n2_ := Aside0.mk (Kd.R_mono (Kd.R_told (Kd.R_told (Kd.R_told (Kd.R_old (by (with_reducible repeat (first | apply Kd.R_alloc | apply Kd.R_drewN | apply Kd.R_drew)); exact HO114.out) hb) (Kd.R_base ho0)) (Kd.R_base ho1)) (Kd.R_base ho2)) (fun _ h_ => h_.1))
        have n3_ := Aside0.mk (Kd.R_mono (Kd.R_told (Kd.R_told (Kd.R_told (Kd.R_old (by (with_reducible repeat (first | apply Kd.R_alloc | apply Kd.R_drewN | apply Kd.R_drew)); exact HO121.out) hb) (Kd.R_base ho0)) (Kd.R_base ho1)) (Kd.R_base ho2)) (fun _ h_ => h_.1))
        have n4_ := Aside0.mk (Kd.R_mono (Kd.R_told (Kd.R_told (Kd.R_told (Kd.R_old (by (with_reducible repeat (first | apply Kd.R_alloc | apply Kd.R_drewN | apply Kd.R_drew)); exact HO124.out) hb) (Kd.R_base ho0)) (Kd.R_base ho1)) (Kd.R_base ho2)) (fun _ h_ => h_.1))
        have n5_ := Aside0.mk (Kd.R_mono (Kd.R_told (Kd.R_told (Kd.R_told (Kd.R_old (by (with_reducible repeat (first | apply Kd.R_alloc | apply Kd.R_drewN | apply Kd.R_drew)); exact HO127.out) hb) (Kd.R_base ho0)) (Kd.R_base ho1)) (Kd.R_base ho2)) (fun _ h_ => h_.1))
        have n6_ := Aside0.mk (Kd.R_lower (Kd.R_new' (Kd.R_new' (Kd.R_new' (Kd.R_new' (Kd.R_new' (Kd.R_new' ho0 (Kd.R_lt (by (with_reducible repeat (first | apply Kd.R_alloc | apply Kd.R_drewN | apply Kd.R_drew)); exact HO108.out))) (Kd.R_lt (by (with_reducible repeat (first | apply Kd.R_alloc | apply Kd.R_drewN | apply Kd.R_drew)); exact HO111.out))) (Kd.R_lt (by (with_reducible repeat (first | apply Kd.R_alloc | apply Kd.R_drewN | apply Kd.R_drew)); exact HO114.out))) (Kd.R_lt (by (with_reducible repeat (first | apply Kd.R_alloc | apply Kd.R_drewN | apply Kd.R_drew)); exact HO121.out))) (Kd.R_lt (by (with_reducible repeat (first | apply Kd.R_alloc | apply Kd.R_drewN | apply Kd.R_drew)); exact HO124.out))) (Kd.R_lt (by (with_reducible repeat (first | apply Kd.R_alloc | apply Kd.R_drewN | apply Kd.R_drew)); exact HO127.out))) (below_size (by repeat (first | (with_reducible first | exact HB.out | apply below_alloc | apply pw_below_drewN | apply below_drew1 | refine below_set ?_ GE101.out | refine below_set ?_ GE128.out) | exact HB.out))))
        have n7_ := Aside0.mk (Kd.R_lower (Kd.R_new' (Kd.R_new' (Kd.R_new' (Kd.R_new' (Kd.R_new' (Kd.R_new' ho1 (Kd.R_lt (by (with_reducible repeat (first | apply Kd.R_alloc | apply Kd.R_drewN | apply Kd.R_drew)); exact HO108.out))) (Kd.R_lt (by (with_reducible repeat (first | apply Kd.R_alloc | apply Kd.R_drewN | apply Kd.R_drew)); exact HO111.out))) (Kd.R_lt (by (with_reducible repeat (first | apply Kd.R_alloc | apply Kd.R_drewN | apply Kd.R_drew)); exact HO114.out))) (Kd.R_lt (by (with_reducible repeat (first | apply Kd.R_alloc | apply Kd.R_drewN | apply Kd.R_drew)); exact HO121.out))) (Kd.R_lt (by (with_reducible repeat (first | apply Kd.R_alloc | apply Kd.R_drewN | apply Kd.R_drew)); exact HO124.out))) (Kd.R_lt (by (with_reducible repeat (first | apply Kd.R_alloc | apply Kd.R_drewN | apply Kd.R_drew)); exact HO127.out))) (below_size (by repeat (first | (with_reducible first | exact HB.out | apply below_alloc | apply pw_below_drewN | apply below_drew1 | refine below_set ?_ GE101.out | refine below_set ?_ GE128.out) | exact HB.out))))
        have n8_ := Aside0.mk (Kd.R_lower (Kd.R_new' (Kd.R_new' (Kd.R_new' (Kd.R_new' (Kd.R_new' (Kd.R_new' ho2 (Kd.R_lt (by (with_reducible repeat (first | apply Kd.R_alloc | apply Kd.R_drewN | apply Kd.R_drew)); exact HO108.out))) (Kd.R_lt (by (with_reducible repeat (first | apply Kd.R_alloc | apply Kd.R_drewN | apply Kd.R_drew)); exact HO111.out))) (Kd.R_lt (by (with_reducible repeat (first | apply Kd.R_alloc | apply Kd.R_drewN | apply Kd.R_drew)); exact HO114.out))) (Kd.R_lt (by (with_reducible repeat (first | apply Kd.R_alloc | apply Kd.R_drewN | apply Kd.R_drew)); exact HO121.out))) (Kd.R_lt (by (with_reducible repeat (first | apply Kd.R_alloc | apply Kd.R_drewN | apply Kd.R_drew)); exact HO124.out))) (Kd.R_lt (by (with_reducible repeat (first | apply Kd.R_alloc | apply Kd.R_drewN | apply Kd.R_drew)); exact HO127.out))) (below_size (by repeat (first | (with_reducible first | exact HB.out | apply below_alloc | apply pw_below_drewN | apply below_drew1 | refine below_set ?_ GE101.out | refine below_set ?_ GE128.out) | exact HB.out))))
        have n9_ := Aside0.mk (blk_below (g := gb101) (o := .cells #[.int .i64 a0_0, .int .i64 a0_1, .int .i64 a0_2, .slice A0_3 l0_3.length c0_3, .slice A0_4 l0_4.length c0_4, .slice A0_5 l0_5.length c0_5] 24 (0, 0)) (by (with_reducible repeat (first | refine blk_drewN ?_ _ | refine blk_drew ?_ | refine blk_alloc ?_ _)); exact BK101.out) hb)
        have n10_ := Aside0.mk (blk_below (g := gb128) (o := .cells #[.int .i64 t116, .int .i64 t117, .int .i64 t118, .slice Ao29 t119.length co29, .slice Ao30 t122.length co30, .slice Ao31 t125.length co31] 29 (0, 0)) (by (with_reducible repeat (first | refine blk_drewN ?_ _ | refine blk_drew ?_ | refine blk_alloc ?_ _)); exact BK128.out) hb)
        have n11_ := Aside0.mk (below_step (by repeat (first | (with_reducible first | exact HB.out | apply below_alloc | apply pw_below_drewN | apply below_drew1 | refine below_set ?_ GE101.out | refine below_set ?_ GE128.out) | exact HB.out)) hb)
        clear HO108
        clear HO111
        clear HO114
        clear HO121
        clear HO124
        clear HO127
        clear BK101
        clear BK128
        clear HB
        have HO108 := n0_
        have HO111 := n1_
        have HO114 := n2_
        have HO121 := n3_
        have HO124 := n4_
        have HO127 := n5_
        have HO135 := n6_
        have HO138 := n7_
        have HO141 := n8_
        have BK101 := n9_
        have BK128 := n10_
        have HB := n11_
        clear n0_ n1_ n2_ n3_ n4_ n5_ n6_ n7_ n8_ n9_ n10_ n11_
        (try clear hb)
        (try clear hb2)
        (try clear hk)
        (try clear hi)
        (try clear ho0)
        (try clear ho1)
        (try clear ho2)
        obtain ⟨Ao35, co35, eo35⟩ := Kd.R_slice HO135.out
        (first | subst eo35 | (injection eo35 with f1_ f2_ f3_; have f4_ := f1_.symm; have f5_ := f3_.symm; clear f1_ f2_ f3_; subst f4_; subst f5_))
        obtain ⟨Ao36, co36, eo36⟩ := Kd.R_slice HO138.out
        (first | subst eo36 | (injection eo36 with f1_ f2_ f3_; have f4_ := f1_.symm; have f5_ := f3_.symm; clear f1_ f2_ f3_; subst f4_; subst f5_))
        obtain ⟨Ao37, co37, eo37⟩ := Kd.R_slice HO141.out
        (first | subst eo37 | (injection eo37 with f1_ f2_ f3_; have f4_ := f1_.symm; have f5_ := f3_.symm; clear f1_ f2_ f3_; subst f4_; subst f5_))
        refine hK.out _ _ ⟨(blk_cell BK128.out 0).trans rfl, (blk_cell BK128.out 1).trans rfl, (blk_cell BK128.out 2).trans rfl, (blk_cell BK128.out 3).trans rfl, (blk_cell BK128.out 4).trans rfl, (blk_cell BK128.out 5).trans rfl, (blk_cell BK101.out 0).trans rfl, (blk_cell BK101.out 1).trans rfl, (blk_cell BK101.out 2).trans rfl, (blk_cell BK101.out 3).trans rfl, (blk_cell BK101.out 4).trans rfl, (blk_cell BK101.out 5).trans rfl⟩ (fun hHeld => ?_)
        clear hK K
        refine norm_ (a' := ?_) ?_ ?_
        rotate_left
        · show Act.put _ (some 24) _ = _
          simp only [Act.put, List.setIfInBounds_toArray, List.set_cons_zero, List.set_cons_succ, i64_w, i32_w]
          rfl
        refine one_ (i := 3) (N := some 25) #[true, true, true, true, false] rfl rfl (by kernel_rfl) (by decide) (fun K hK => ?_)
        refine goes_ Try.func14 (by kernel_rfl) rfl #[.agg #[.int .i64 t116, .int .i64 t117, .int .i64 t118, .slice Ao29 t119.length co29, .slice Ao30 t122.length co30, .slice Ao31 t125.length co31], .agg #[.int .i64 t130, .int .i64 t131, .int .i64 t132, .slice Ao35 t133.length co35, .slice Ao36 t136.length co36, .slice Ao37 t139.length co37]] (by rfl) rfl rfl (by (try simp only [List.map_toArray, List.map_cons, List.map_nil]); first | done | rfl | (simp only [List.length_drop, List.length_take]; rfl)) ?_
        with_reducible refine (laws_eqSystem.calls k t116 t117 t118 _ _ t119 _ _ t122 _ _ t125 t130 t131 t132 _ _ t133 _ _ t136 _ _ t139 true _ ?side1 ?side2 ?side3 ?side4 ?side5 ?side6 ?side7 ?side8 ?side9 ?side10 ?side11 ?side12 A13.out).mono ?_
        (case side1 => repeat (first | exact (Kd.R_reads' HO121.out).2.2 | (with_reducible refine Kd.C_alloc ?_ _) | (with_reducible refine Kd.C_drewN ?_ _) | (with_reducible refine Kd.C_drew ?_)))
        (case side2 => exact (Kd.R_reads' HO121.out).2.1)
        (case side3 => repeat (first | exact (Kd.R_reads' HO124.out).2.2 | (with_reducible refine Kd.C_alloc ?_ _) | (with_reducible refine Kd.C_drewN ?_ _) | (with_reducible refine Kd.C_drew ?_)))
        (case side4 => exact (Kd.R_reads' HO124.out).2.1)
        (case side5 => repeat (first | exact (Kd.R_reads' HO127.out).2.2 | (with_reducible refine Kd.C_alloc ?_ _) | (with_reducible refine Kd.C_drewN ?_ _) | (with_reducible refine Kd.C_drew ?_)))
        (case side6 => exact (Kd.R_reads' HO127.out).2.1)
        (case side7 => repeat (first | exact (Kd.R_reads' HO135.out).2.2 | (with_reducible refine Kd.C_alloc ?_ _) | (with_reducible refine Kd.C_drewN ?_ _) | (with_reducible refine Kd.C_drew ?_)))
        (case side8 => exact (Kd.R_reads' HO135.out).2.1)
        (case side9 => repeat (first | exact (Kd.R_reads' HO138.out).2.2 | (with_reducible refine Kd.C_alloc ?_ _) | (with_reducible refine Kd.C_drewN ?_ _) | (with_reducible refine Kd.C_drew ?_)))
        (case side10 => exact (Kd.R_reads' HO138.out).2.1)
        (case side11 => repeat (first | exact (Kd.R_reads' HO141.out).2.2 | (with_reducible refine Kd.C_alloc ?_ _) | (with_reducible refine Kd.C_drewN ?_ _) | (with_reducible refine Kd.C_drew ?_)))
        (case side12 => exact (Kd.R_reads' HO141.out).2.1)
        rintro e w38 ⟨rfl, hb⟩
        refine ⟨_, rfl, ?_⟩
        have n0_ := Aside0.mk (Kd.R_below (by (with_reducible repeat (first | apply Kd.R_alloc | apply Kd.R_drewN | apply Kd.R_drew)); exact HO108.out) hb)
        have n1_ := Aside0.mk (Kd.R_below (by (with_reducible repeat (first | apply Kd.R_alloc | apply Kd.R_drewN | apply Kd.R_drew)); exact HO111.out) hb)
        have n2_ := Aside0.mk (Kd.R_below (by (with_reducible repeat (first | apply Kd.R_alloc | apply Kd.R_drewN | apply Kd.R_drew)); exact HO114.out) hb)
        have n3_ := Aside0.mk (Kd.R_below (by (with_reducible repeat (first | apply Kd.R_alloc | apply Kd.R_drewN | apply Kd.R_drew)); exact HO121.out) hb)
        have n4_ := Aside0.mk (Kd.R_below (by (with_reducible repeat (first | apply Kd.R_alloc | apply Kd.R_drewN | apply Kd.R_drew)); exact HO124.out) hb)
        have n5_ := Aside0.mk (Kd.R_below (by (with_reducible repeat (first | apply Kd.R_alloc | apply Kd.R_drewN | apply Kd.R_drew)); exact HO127.out) hb)
        have n6_ := Aside0.mk (Kd.R_below (by (with_reducible repeat (first | apply Kd.R_alloc | apply Kd.R_drewN | apply Kd.R_drew)); exact HO135.out) hb)
        have n7_ := Aside0.mk (Kd.R_below (by (with_reducible repeat (first | apply Kd.R_alloc | apply Kd.R_drewN | apply Kd.R_drew)); exact HO138.out) hb)
        have n8_ := Aside0.mk (Kd.R_below (by (with_reducible repeat (first | apply Kd.R_alloc | apply Kd.R_drewN | apply Kd.R_drew)); exact HO141.out) hb)
        have n9_ := Aside0.mk (blk_below (g := gb101) (o := .cells #[.int .i64 a0_0, .int .i64 a0_1, .int .i64 a0_2, .slice A0_3 l0_3.length c0_3, .slice A0_4 l0_4.length c0_4, .slice A0_5 l0_5.length c0_5] 24 (0, 0)) (by (with_reducible repeat (first | refine blk_drewN ?_ _ | refine blk_drew ?_ | refine blk_alloc ?_ _)); exact BK101.out) hb)
        have n10_ := Aside0.mk (blk_below (g := gb128) (o := .cells #[.int .i64 t116, .int .i64 t117, .int .i64 t118, .slice Ao29 t119.length co29, .slice Ao30 t122.length co30, .slice Ao31 t125.length co31] 29 (0, 0)) (by (with_reducible repeat (first | refine blk_drewN ?_ _ | refine blk_drew ?_ | refine blk_alloc ?_ _)); exact BK128.out) hb)
        have n11_ := Aside0.mk (below_step (by repeat (first | (with_reducible first | exact HB.out | apply below_alloc | apply pw_below_drewN | apply below_drew1 | refine below_set ?_ GE101.out | refine below_set ?_ GE128.out) | exact HB.out)) hb)
        clear HO108
        clear HO111
        clear HO114
        clear HO121
        clear HO124
        clear HO127
        clear HO135
        clear HO138
        clear HO141
        clear BK101
        clear BK128
        clear HB
        have HO108 := n0_
        have HO111 := n1_
        have HO114 := n2_
        have HO121 := n3_
        have HO124 := n4_
        have HO127 := n5_
        have HO135 := n6_
        have HO138 := n7_
        have HO141 := n8_
        have BK101 := n9_
        have BK128 := n10_
        have HB := n11_
        clear n0_ n1_ n2_ n3_ n4_ n5_ n6_ n7_ n8_ n9_ n10_ n11_
        (try clear hb)
        (try clear hb2)
        (try clear hk)
        (try clear hi)
        refine hK.out _ _ ⟨(blk_cell BK128.out 0).trans rfl, (blk_cell BK128.out 1).trans rfl, (blk_cell BK128.out 2).trans rfl, (blk_cell BK128.out 3).trans rfl, (blk_cell BK128.out 4).trans rfl, (blk_cell BK128.out 5).trans rfl, (blk_cell BK101.out 0).trans rfl, (blk_cell BK101.out 1).trans rfl, (blk_cell BK101.out 2).trans rfl, (blk_cell BK101.out 3).trans rfl, (blk_cell BK101.out 4).trans rfl, (blk_cell BK101.out 5).trans rfl⟩ (fun hHeld => ?_)
        clear hK K
        refine norm_ (a' := ?_) ?_ ?_
        rotate_left
        · show Act.put _ (some 25) _ = _
          simp only [Act.put, List.setIfInBounds_toArray, List.set_cons_zero, List.set_cons_succ, i64_w, i32_w]
          rfl
        refine pure_ (i := 4) (N := some 26) (v := ?_) (a' := ?_) #[true, true, true, true, true] rfl rfl (by kernel_rfl) (fun _ _ _ h => h) (Or.inl ⟨by rfl, ?_⟩) ?_ ?_
        rotate_left
        · intro w'
          go_simp
          with_reducible rfl
        rotate_left
        · simp only [Act.put, List.setIfInBounds_toArray, List.set_cons_zero, List.set_cons_succ, i64_w, i32_w]
          rfl
        refine done_ (by kernel_rfl) ?_
        try go_wp2
        go_ret
        exact ⟨by first | rfl | (simp [errW_none, errW_some] <;> rfl) | (simp [*, errW_none, errW_some] <;> rfl), by repeat (first | (with_reducible first | exact HB.out | apply below_alloc | apply pw_below_drewN | apply below_drew1 | refine below_set ?_ GE101.out | refine below_set ?_ GE128.out) | exact HB.out)⟩
      · replace c14 := Bool.eq_false_iff.mpr c14
        subst c14
        have H1 : (some false) = some r := by rw [if_neg (show ¬ (false = true) by decide)] at H; exact H
        clear H
        have H := H1
        clear H1
        exact absurd ((Option.some.inj H).trans hr_) (by decide)

end Go.Proofs.Ytekijbcblajjbaa.PT
end
section
/- Arguments that are read as data have the kinds' own form: for each kind, compositionally. Own text, for every seat (Ytekijbcblajjbaa: the seat's name). -/
namespace Go.Proofs.YtekijbcblajjbaaO
open Go.RowKit Go.ChangeShapes Go.WideShapes Go.ChangeAt Go.Proofs.YtekijbcblajjbaaW.PrintWords

/-- What is read as data of type T is of the kind d, and good. -/
def Opens {α : Type} {H : Type} (enc : TypeId × Value → H) (P : Program) (w : World) (T : TypeId) (d : Kd α) (good : α → Prop) : Prop :=
  ∀ (fuel : Nat) (cs : List Value) (x : DataW H × List MemPlace), DataW.trod enc P w 0 (fun _ => true) true fuel T cs = some x → ∃ a, d.K w a cs ∧ good a

/-- What is read as a run of fields of these types (each with its cells) is of the kind d, and good. -/
def OpensSeq {α : Type} {H : Type} (enc : TypeId × Value → H) (P : Program) (w : World) (fs : List (TypeId × Nat)) (d : Kd α) (good : α → Prop) : Prop :=
  ∀ (fuel : Nat) (cs : List Value), cs.length = (fs.map (·.2)).sum → (∀ (j : Nat) (T n : Nat), fs[j]? = some (T, n) → ∃ x, DataW.trod enc P w 0 (fun _ => true) true fuel T ((cs.drop ((fs.take j).map (·.2)).sum).take n) = some x) → ∃ a, d.K w a cs ∧ good a

section
variable {H : Type} {enc : TypeId × Value → H} {P : Program} {w : World}

def IntGood (k : IntKind) (a : Int) : Prop := (Lit.int k a).wf = true
def StrGood (a : ByteArray) : Prop := a.size ≤ 9223372036854775807
def ListGood {α : Type} (g : α → Prop) (l : List α) : Prop := l.length ≤ 9223372036854775807 ∧ ∀ x ∈ l, g x

theorem opens_int {T : TypeId} {k : IntKind} (ht : P.underlying T = some (.int k)) : Opens enc P w T (Kd.int k) (IntGood k) := by
  intro fuel cs x h
  obtain ⟨n, rfl, _, hw⟩ := DataW.trod_int ht h
  exact ⟨n, rfl, hw⟩
theorem opens_bool {T : TypeId} (ht : P.underlying T = some .bool) : Opens enc P w T Kd.bool (fun _ => True) := by
  intro fuel cs x h
  obtain ⟨n, rfl, _⟩ := DataW.trod_bool ht h
  exact ⟨n, rfl, trivial⟩
theorem opens_string {T : TypeId} (ht : P.underlying T = some .string) : Opens enc P w T Kd.string StrGood := by
  intro fuel cs x h
  obtain ⟨s, rfl, _, hs⟩ := DataW.trod_string ht h
  exact ⟨s, rfl, by unfold StrGood; unfold maxLen at hs; omega⟩

theorem choose_list {α : Type} {n : Nat} {p : Nat → α → Prop} (h : ∀ i, i < n → ∃ a, p i a) : ∃ l : List α, l.length = n ∧ ∀ i a, l[i]? = some a → p i a := by
  induction n with
  | zero => exact ⟨[], rfl, fun i a hi => by simp at hi⟩
  | succ n ih =>
    obtain ⟨l, hl, hp⟩ := ih (fun i hi => h i (by omega))
    obtain ⟨a, ha⟩ := h n (by omega)
    refine ⟨l ++ [a], by simp [hl], fun i b hi => ?_⟩
    rcases Nat.lt_or_ge i l.length with hlt | hge
    · rw [List.getElem?_append_left hlt] at hi
      exact hp i b hi
    · rw [List.getElem?_append_right hge] at hi
      have : i - l.length = 0 := by
        rcases Nat.eq_zero_or_pos (i - l.length) with h0 | h0
        · exact h0
        · rw [List.getElem?_eq_none (by simp; omega)] at hi; simp at hi
      rw [this] at hi
      simp at hi
      subst hi
      have : i = n := by omega
      rw [this]
      exact ha

theorem opens_slice {α : Type} {d : Kd α} {good : α → Prop} {T e : TypeId} (ht : P.underlying T = some (.slice e)) (hc : P.cellsOf e = d.sz) (ho : Opens enc P w e d good) : Opens enc P w T (Kd.slice e d) (ListGood good) := by
  intro fuel cs x h
  rcases Deep.open_slice ht h with ⟨rfl, _⟩ | ⟨a, len, cap, m, n, D, Pl, rfl, _, hl, hm, hmm, _, hx⟩
  · exact ⟨[], ⟨none, 0, rfl, Nat.le_refl _, ⟨rfl, by simp, fun h0 => by simp at h0⟩⟩, ⟨by simp, fun x hx => by simp at hx⟩⟩
  · have hle : len ≤ m := by rw [hmm]; split <;> omega
    have hex : ∀ i, i < len → ∃ b : α, (∃ c, c.length = d.sz ∧ d.K w b c ∧ ∀ j u, c[j]? = some u → w.cell? (a.add (i * d.sz + j)) = some u) ∧ good b := by
      intro i hi
      obtain ⟨cs', h1, h2⟩ := hx i (by omega)
      obtain ⟨b, hK, hg⟩ := ho _ _ _ h2
      obtain ⟨_, hlen, hcell⟩ := World.cells?_some h1
      refine ⟨b, ⟨cs', by rw [hlen, hc], hK, fun j u hu => ?_⟩, hg⟩
      have hj : j < P.cellsOf e := by
        rw [← hlen]
        exact (List.getElem?_eq_some_iff.1 hu).1
      rw [← Deep.add_add, ← hc, hcell j hj, hu]
    obtain ⟨l, hll, hp⟩ := choose_list hex
    unfold maxLen at hm
    refine ⟨l, ⟨some a, cap, by rw [hll], by omega, ⟨rfl, by omega, fun _ => ⟨a, rfl, fun j p hj => (hp j p hj).1⟩⟩⟩, ⟨by omega, fun x hx => ?_⟩⟩
    obtain ⟨i, hi, rfl⟩ := List.getElem_of_mem hx
    exact (hp i _ (List.getElem?_eq_getElem hi)).2

theorem opensSeq_one {α : Type} {d : Kd α} {good : α → Prop} {T n : Nat} (ho : Opens enc P w T d good) : OpensSeq enc P w [(T, n)] d good := by
  intro fuel cs hlen h
  obtain ⟨x, hx⟩ := h 0 T n rfl
  simp at hlen
  simp [List.take_of_length_le (Nat.le_of_eq hlen)] at hx
  exact ho _ _ _ hx
theorem opensSeq_cons {α β : Type} {d : Kd α} {good : α → Prop} {d2 : Kd β} {good2 : β → Prop} {T n : Nat} {fs : List (TypeId × Nat)} (ho : Opens enc P w T d good) (hs : OpensSeq enc P w fs d2 good2) :
    OpensSeq enc P w ((T, n) :: fs) (Kd.pair d d2) (fun x => good x.1 ∧ good2 x.2) := by
  intro fuel cs hlen h
  obtain ⟨x, hx⟩ := h 0 T n rfl
  simp at hx
  obtain ⟨a, hK, hg⟩ := ho _ _ _ hx
  simp only [List.map_cons, List.sum_cons] at hlen
  obtain ⟨b, hK2, hg2⟩ := hs fuel (cs.drop n) (by rw [List.length_drop, hlen]; omega) (fun j T' n' hj => by
    obtain ⟨y, hy⟩ := h (j + 1) T' n' (by simpa using hj)
    refine ⟨y, ?_⟩
    simp only [List.take_succ_cons, List.map_cons, List.sum_cons] at hy
    rw [List.drop_drop]
    exact hy)
  exact ⟨(a, b), ⟨cs.take n, cs.drop n, (List.take_append_drop n cs).symm, hK, hK2⟩, hg, hg2⟩

/-- A struct whose fields stand one behind the other. -/
theorem opens_struct {α β : Type} {d : Kd α} {good : α → Prop} {T : TypeId} {fs : Array Field} {l : List (TypeId × Nat)} (f : β → α) (g : α → β) (hfg : ∀ a, f (g a) = a) (ht : P.underlying T = some (.struct fs))
    (hl : l.length = fs.size) (hf : ∀ (j : Nat) (T' n : Nat), l[j]? = some (T', n) → ∃ fd, fs[j]? = some fd ∧ fd.type = T' ∧ P.cellsOf T' = n ∧ fd.offset = ((l.take j).map (·.2)).sum) (hc : P.cellsOf T = (l.map (·.2)).sum)
    (hs : OpensSeq enc P w l d good) : Opens enc P w T (Kd.iso d f) (fun x => good (f x)) := by
  intro fuel cs x h
  obtain ⟨xs, n, _, _, hlen, hxl, hx⟩ := DataW.trod_struct ht h
  obtain ⟨a, hK, hg⟩ := hs n cs (by rw [hlen, hc]) (fun j T' n' hj => by
    obtain ⟨fd, h1, h2, h3, h4⟩ := hf j T' n' hj
    have h5 := hx j fd h1
    have hj2 : j < xs.length := by
      have := (List.getElem?_eq_some_iff.1 hj).1
      omega
    rw [List.getElem?_eq_getElem hj2, h2, h3, h4] at h5
    exact ⟨_, h5⟩)
  refine ⟨g a, ?_, ?_⟩
  · show d.K w (f (g a)) cs
    rw [hfg]; exact hK
  · show good (f (g a))
    rw [hfg]; exact hg
end
end Go.Proofs.YtekijbcblajjbaaO
end
section
namespace Go.Proofs.Ytekijbcblajjbaa.fnExactSystemOK
open Go.RowKit Go.ChangeShapes Go.WideShapes Go.ChangeAt Go.Proofs.YtekijbcblajjbaaO Go.Proofs.Ytekijbcblajjbaa.PT Go.Proofs.YtekijbcblajjbaaW.PrintWords Go.Proofs.YtekijbcblajjbaaW.PrintLast
set_option linter.unusedVariables false
theorem opensT3 {H : Type} {enc : TypeId × Value → H} {w : World} : Opens enc Try.prog w 3 (Kd.int .i64) (IntGood .i64) := opens_int Try.underlying3
def goodT105 : S105 → Prop := (fun x : S105 => (IntGood .i64) x.f0 ∧ (IntGood .i64) x.f1 ∧ (IntGood .i64) x.f2)
theorem opensT105 {H : Type} {enc : TypeId × Value → H} {w : World} : Opens enc Try.prog w 105 k105 goodT105 :=
  opens_struct (l := [(3, 1), (3, 1), (3, 1)]) (fun x : S105 => (x.f0, x.f1, x.f2)) (fun a => ⟨a.1, a.2.1, a.2.2⟩) (fun _ => rfl) Try.underlying105 rfl (fun j T n h => match j, T, n, h with
    | 0, _, _, h => by cases h; exact ⟨_, rfl, rfl, by kernel_rfl, rfl⟩
    | 1, _, _, h => by cases h; exact ⟨_, rfl, rfl, by kernel_rfl, rfl⟩
    | 2, _, _, h => by cases h; exact ⟨_, rfl, rfl, by kernel_rfl, rfl⟩
    | _ + 3, _, _, h => by simp at h) (by kernel_rfl) (opensSeq_cons opensT3 (opensSeq_cons opensT3 (opensSeq_one opensT3)))
theorem opensT22 {H : Type} {enc : TypeId × Value → H} {w : World} : Opens enc Try.prog w 22 (Kd.slice 105 k105) (ListGood goodT105) := opens_slice Try.underlying22 (by kernel_rfl) opensT105
def goodT24 : S24 → Prop := (fun x : S24 => (IntGood .i64) x.f0 ∧ (IntGood .i64) x.f1 ∧ (IntGood .i64) x.f2 ∧ (ListGood goodT105) x.f3 ∧ (ListGood goodT105) x.f4 ∧ (ListGood goodT105) x.f5)
theorem opensT24 {H : Type} {enc : TypeId × Value → H} {w : World} : Opens enc Try.prog w 24 k24 goodT24 :=
  opens_struct (l := [(3, 1), (3, 1), (3, 1), (22, 1), (22, 1), (22, 1)]) (fun x : S24 => (x.f0, x.f1, x.f2, x.f3, x.f4, x.f5)) (fun a => ⟨a.1, a.2.1, a.2.2.1, a.2.2.2.1, a.2.2.2.2.1, a.2.2.2.2.2⟩) (fun _ => rfl) Try.underlying24 rfl (fun j T n h => match j, T, n, h with
    | 0, _, _, h => by cases h; exact ⟨_, rfl, rfl, by kernel_rfl, rfl⟩
    | 1, _, _, h => by cases h; exact ⟨_, rfl, rfl, by kernel_rfl, rfl⟩
    | 2, _, _, h => by cases h; exact ⟨_, rfl, rfl, by kernel_rfl, rfl⟩
    | 3, _, _, h => by cases h; exact ⟨_, rfl, rfl, by kernel_rfl, rfl⟩
    | 4, _, _, h => by cases h; exact ⟨_, rfl, rfl, by kernel_rfl, rfl⟩
    | 5, _, _, h => by cases h; exact ⟨_, rfl, rfl, by kernel_rfl, rfl⟩
    | _ + 6, _, _, h => by simp at h) (by kernel_rfl) (opensSeq_cons opensT3 (opensSeq_cons opensT3 (opensSeq_cons opensT3 (opensSeq_cons opensT22 (opensSeq_cons opensT22 (opensSeq_one opensT22))))))
/-- What is to be shown of the law, over numbers and lists alone. -/
def Pure : Prop := ∀ (x0 : S24), goodT24 x0 → ∃ k, laws_FnExactSystemOK.f k x0.f0 x0.f1 x0.f2 x0.f3 x0.f4 x0.f5 = some true
end Go.Proofs.Ytekijbcblajjbaa.fnExactSystemOK
end
section
/- The field and the greater field, over whole numbers: what the printed functions of chapters 2 and 3 come to. -/
namespace Go.Proofs.Ytekijbcblajjbaa.PT
open Go.RowKit Go.Proofs.YtekijbcblajjbaaW.PrintWords Go.Proofs.YtekijbcblajjbaaW.PrintLast Go.Proofs.YtekijbcblajjbaaW.PrintMore
set_option linter.unusedVariables false
set_option linter.unusedSimpArgs false

theorem w64 {n : Int} (h0 : -9223372036854775808 ≤ n) (h1 : n ≤ 9223372036854775807) : wrap64 n = n := by unfold wrap64; omega
def inF (a : Int) : Prop := 0 ≤ a ∧ a ≤ 2130706432
instance (a : Int) : Decidable (inF a) := by unfold inF; infer_instance
end Go.Proofs.Ytekijbcblajjbaa.PT
end
section
/- What the printed functions of the field and of the greater field answer: the same sums and products on both sides. -/
namespace Go.Proofs.Ytekijbcblajjbaa.PT
open Go.RowKit Go.Proofs.YtekijbcblajjbaaW.PrintWords Go.Proofs.YtekijbcblajjbaaW.PrintLast Go.Proofs.YtekijbcblajjbaaW.PrintMore
set_option linter.unusedVariables false
set_option linter.unusedSimpArgs false

theorem impl_in_eq (a b c : Int) : impl_in.f a b c = some (decide (b ≤ a ∧ a ≤ c)) := by
  unfold impl_in.f; by_cases h : b ≤ a <;> simp [h]
theorem spec_l01In_eq (a b c : Int) : spec_l01In.f a b c = some (decide (b ≤ a ∧ a ≤ c)) := by
  unfold spec_l01In.f; by_cases h : b ≤ a <;> simp [h]
/-! lists -/
end Go.Proofs.Ytekijbcblajjbaa.PT
end
section
/- The laws' own helpers: elements copied, compared, marked; and powers of two. -/
namespace Go.Proofs.Ytekijbcblajjbaa.PT
open Go.RowKit Go.Proofs.YtekijbcblajjbaaW.PrintWords Go.Proofs.YtekijbcblajjbaaW.PrintLast Go.Proofs.YtekijbcblajjbaaW.PrintMore
set_option linter.unusedVariables false
set_option linter.unusedSimpArgs false

theorem getD_at {α : Type} {l : List α} {z : α} {i : Nat} (h : i < l.length) : l.getD i z = l[i] := by
  rw [List.getD_eq_getElem?_getD, List.getElem?_eq_getElem h]; rfl
theorem set_mid {α : Type} (a b : List α) (x y : α) : (a ++ x :: b).set a.length y = a ++ y :: b := by
  rw [List.set_append_right _ _ (Nat.le_refl _)]; simp
/-! marks: a list's cells are numbered from k on -/
/-! powers of two -/
end Go.Proofs.Ytekijbcblajjbaa.PT
end
section
/- Steps that several laws share: same answers compared, lists turned in place. -/
namespace Go.Proofs.Ytekijbcblajjbaa.PT
open Go.RowKit Go.Proofs.YtekijbcblajjbaaW.PrintWords Go.Proofs.YtekijbcblajjbaaW.PrintLast Go.Proofs.YtekijbcblajjbaaW.PrintMore
set_option linter.unusedVariables false
set_option linter.unusedSimpArgs false
/-- A step with its answer known, as a rewriting (no unfolding in the kernel). -/
theorem bS {α β : Type} (a : α) (f : α → Option β) : (some a).bind f = f a := Eq.trans (Eq.refl _) (Option.bind_some a f)
end Go.Proofs.Ytekijbcblajjbaa.PT
end
section
/- The equality weight, at a point and as a table: both sides walk the same numbers. -/
namespace Go.Proofs.Ytekijbcblajjbaa.PT
open Go.RowKit Go.Proofs.YtekijbcblajjbaaW.PrintWords Go.Proofs.YtekijbcblajjbaaW.PrintLast Go.Proofs.YtekijbcblajjbaaW.PrintMore
set_option linter.unusedVariables false
set_option linter.unusedSimpArgs false
/-! the table -/
end Go.Proofs.Ytekijbcblajjbaa.PT
end
section
/- Entries and matrices: the laws' helpers, and what both sides answer. -/
namespace Go.Proofs.Ytekijbcblajjbaa.PT
open Go.RowKit Go.Proofs.YtekijbcblajjbaaW.PrintWords Go.Proofs.YtekijbcblajjbaaW.PrintLast Go.Proofs.YtekijbcblajjbaaW.PrintMore
set_option linter.unusedVariables false
set_option linter.unusedSimpArgs false
theorem rdEntryS_src {l : List S105} {i : Nat} (h : i < l.length) : rd_T105 l (i : Int) = l[i] := by
  show l.getD (i : Int).toNat z105 = l[i]
  rw [Int.toNat_natCast, getD_at h]
theorem rdEntryS {l : List S53} {i : Nat} (h : i < l.length) : rd_T53 l (i : Int) = l[i] := by
  show l.getD (i : Int).toNat z53 = l[i]
  rw [Int.toNat_natCast, getD_at h]
def convEntryS (l : List S105) : List S53 := l.map fun x => ⟨x.f0, x.f1, x.f2⟩
theorem convEntryS_length (l : List S105) : (convEntryS l).length = l.length := by simp [convEntryS]
theorem szEntryS_big {l : List S105} {a : Int} (ha : 0 ≤ a) (ha2 : a ≤ 1048576) (hl : l.length ≤ 9223372036854775807) (h : a < l.length) : laws_szEntryS.f l a = some (-1) := by
  unfold laws_szEntryS.f; rw [w64 (by omega) (by omega), if_pos (by omega)]
theorem szEntryS_fit {l : List S105} {a : Int} (ha2 : a ≤ 1048576) (h : (l.length : Int) ≤ a) : laws_szEntryS.f l a = some (a - l.length) := by
  unfold laws_szEntryS.f; rw [w64 (by omega) (by omega), if_neg (by omega)]
theorem toEntryS_l0 (l : List S105) (hl : l.length ≤ 1048576) (d : Nat) : ∀ (k i : Nat), i + d = l.length → d < k →
    laws_toEntryS.l0 k l (convEntryS (l.take i) ++ List.replicate d z53) i = some (convEntryS l) := by
  induction d with
  | zero =>
    intro k i hi hk
    obtain ⟨k, rfl⟩ : ∃ m, k = m + 1 := ⟨k - 1, by omega⟩
    simp only [laws_toEntryS.l0]; rw [if_neg (by omega), List.take_of_length_le (by omega)]; simp
  | succ d ih =>
    intro k i hi hk
    obtain ⟨k, rfl⟩ : ∃ m, k = m + 1 := ⟨k - 1, by omega⟩
    have hlt : i < l.length := by omega
    have hlen : (convEntryS (l.take i)).length = i := by rw [convEntryS_length, List.length_take]; omega
    simp only [laws_toEntryS.l0, laws_toEntry.f]
    rw [if_pos (by omega), if_pos (by omega), rdEntryS_src hlt]
    simp only [bS]
    rw [if_pos (by rw [List.length_append, hlen, List.length_replicate]; omega), Int.toNat_natCast, List.replicate_succ]
    have hs := fun y => set_mid (convEntryS (l.take i)) (List.replicate d z53) z53 y
    rw [hlen] at hs
    rw [hs, w64 (by omega) (by omega), show (i : Int) + 1 = ((i + 1 : Nat) : Int) by omega]
    have := ih k (i + 1) (by omega) (by omega)
    rw [List.take_succ_eq_append_getElem hlt] at this
    simp only [convEntryS, List.map_append, List.map_cons, List.map_nil, List.append_assoc, List.cons_append, List.nil_append] at this
    exact this
theorem toEntryS_eq {l : List S105} (hl : l.length ≤ 1048576) {k : Nat} (hk : l.length < k) : laws_toEntryS.f k l = some (convEntryS l) := by
  unfold laws_toEntryS.f
  rw [if_pos (by omega), if_pos (by omega)]
  have := toEntryS_l0 l (by omega) l.length k 0 (by omega) hk
  rw [Int.natCast_zero, List.take_zero] at this
  rw [Int.toNat_natCast]
  exact this
theorem eqEntry_refl (x : S53) : laws_eqEntry.f x.f0 x.f1 x.f2 x.f0 x.f1 x.f2 = some true := by
  unfold laws_eqEntry.f; rw [if_pos rfl, if_pos rfl, if_pos rfl]
theorem eqEntryS_l0 (a : List S53) (hl : a.length ≤ 1048576) (d : Nat) : ∀ (k i : Nat), i + d = a.length → d < k → laws_eqEntryS.l0 k a a i = some true := by
  induction d with
  | zero =>
    intro k i hi hk
    obtain ⟨k, rfl⟩ : ∃ m, k = m + 1 := ⟨k - 1, by omega⟩
    simp only [laws_eqEntryS.l0]; rw [if_neg (by omega)]
  | succ d ih =>
    intro k i hi hk
    obtain ⟨k, rfl⟩ : ∃ m, k = m + 1 := ⟨k - 1, by omega⟩
    simp only [laws_eqEntryS.l0]
    rw [if_pos (show (i : Int) < (a.length : Int) by omega), if_pos (show 0 ≤ (i : Int) by omega), if_pos (show (i : Int) < (a.length : Int) by omega), eqEntry_refl]
    simp only [bS, if_true]
    rw [w64 (by omega) (by omega), show (i : Int) + 1 = ((i + 1 : Nat) : Int) by omega]
    exact ih k (i + 1) (by omega) (by omega)
theorem eqEntryS_refl {a : List S53} (hl : a.length ≤ 1048576) {k : Nat} (hk : a.length < k) : laws_eqEntryS.f k a a = some true := by
  unfold laws_eqEntryS.f; rw [if_pos rfl]; exact eqEntryS_l0 a hl a.length k 0 (by omega) hk
/-! matrices -/
def befB (x y : S53) : Bool := decide (x.f0 < y.f0 ∨ (x.f0 = y.f0 ∧ x.f1 < y.f1))
theorem order_eq (x y : S53) {k : Nat} (hk : 5 < k) : ∃ r, impl_Entry_order.f k x.f0 x.f1 x.f2 y.f0 y.f1 y.f2 = some r ∧ (¬ r ≥ 0 ↔ befB x y = true) := by
  obtain ⟨k, rfl⟩ : ∃ m, k = m + 1 + 1 + 1 := ⟨k - 3, by omega⟩
  have cmp : ∀ a b : Int, cmp_Compare_int.f a b = some (if a < b then -1 else if a > b then 1 else 0) := by
    intro a b
    unfold cmp_Compare_int.f cmp_isNaN_int.f
    simp only [bne_self_eq_false, bS, Bool.false_eq_true, if_false]
    by_cases h : a < b
    · rw [if_pos h, if_pos h]
    · rw [if_neg h, if_neg h]
      by_cases h2 : a > b
      · rw [if_pos h2, if_pos h2]
      · rw [if_neg h2, if_neg h2]
  unfold impl_Entry_order.f
  rw [cmp, cmp]
  simp only [bS, cmp_Or_int.f]
  have w0 : wrap64 ((0 : Int) + 1) = 1 := w64 (by omega) (by omega)
  have w1 : wrap64 ((1 : Int) + 1) = 2 := w64 (by omega) (by omega)
  have r0 : ∀ p q : Int, rd [p, q] 0 = p := fun _ _ => rfl
  have r1 : ∀ p q : Int, rd [p, q] 1 = q := fun _ _ => rfl
  have hl : ∀ p q : Int, (([p, q] : List Int).length : Int) = 2 := fun _ _ => rfl
  simp only [cmp_Or_int.l0, hl, r0, r1, w0, w1]
  unfold befB
  by_cases h1 : x.f0 < y.f0
  · rw [if_pos h1]
    exact ⟨-1, by simp, by simp [h1]⟩
  · rw [if_neg h1]
    by_cases h2 : x.f0 > y.f0
    · rw [if_pos h2]
      refine ⟨1, by simp, ?_⟩
      simp only [decide_eq_true_eq]
      omega
    · rw [if_neg h2]
      by_cases h3 : x.f1 < y.f1
      · rw [if_pos h3]
        refine ⟨-1, by simp, ?_⟩
        simp only [decide_eq_true_eq]
        omega
      · rw [if_neg h3]
        by_cases h4 : x.f1 > y.f1
        · rw [if_pos h4]
          refine ⟨1, by simp, ?_⟩
          simp only [decide_eq_true_eq]
          omega
        · rw [if_neg h4]
          refine ⟨0, by simp, ?_⟩
          simp only [decide_eq_true_eq]
          omega
/-- All entries lie within r rows and c columns, are of the field and not nought, and stand in order. -/
def entB (r c : Int) (x : S53) : Bool := decide (0 ≤ x.f0 ∧ x.f0 ≤ r - 1) && decide (0 ≤ x.f1 ∧ x.f1 ≤ c - 1) && decide (1 ≤ x.f2 ∧ x.f2 ≤ 2130706432)
def matB (r c : Int) : List S53 → Bool
  | [] => true
  | [x] => entB r c x
  | x :: y :: zs => entB r c x && (befB x y && matB r c (y :: zs))
def matFrom (r c : Int) (l : List S53) (i : Nat) : Bool := (decide (i = 0) || decide (l.length ≤ i) || befB (l.getD (i - 1) z53) (l.getD i z53)) && matB r c (l.drop i)
theorem matFrom_step (r c : Int) (l : List S53) (i : Nat) (h : i < l.length) :
    matFrom r c l i = (entB r c l[i] && ((decide (i = 0) || befB (l.getD (i - 1) z53) l[i]) && matFrom r c l (i + 1))) := by
  unfold matFrom
  have e1 : decide (l.length ≤ i) = false := decide_eq_false (by omega)
  rw [e1, Bool.or_false, getD_at h, List.drop_eq_getElem_cons h]
  have e2 : decide (i + 1 = 0) = false := decide_eq_false (by omega)
  rw [e2, Bool.false_or, Nat.add_sub_cancel, getD_at h]
  by_cases h2 : l.length ≤ i + 1
  · rw [decide_eq_true h2, List.drop_eq_nil_of_le h2, Bool.true_or, Bool.true_and, matB, matB, Bool.and_true]
    cases entB r c l[i] <;> cases (decide (i = 0) || befB (l.getD (i - 1) z53) l[i]) <;> rfl
  · have h3 : i + 1 < l.length := by omega
    rw [decide_eq_false h2, Bool.false_or, getD_at h3, List.drop_eq_getElem_cons h3, matB]
    cases entB r c l[i] <;> cases (decide (i = 0) || befB (l.getD (i - 1) z53) l[i]) <;> rfl
theorem isMatrix_l0 (l : List S53) (hl : l.length ≤ 1048576) (r c : Int) (hr : 0 ≤ r) (hr2 : r ≤ 1000000) (hc : 0 ≤ c) (hc2 : c ≤ 1000000) (d : Nat) : ∀ (k i : Nat), i + d = l.length → d + 10 < k →
    impl_isMatrix.l0 k l r c l (l.length : Int) i = some (matFrom r c l i && decide (l.length ≤ 200)) := by
  induction d with
  | zero =>
    intro k i hi hk
    obtain ⟨k, rfl⟩ : ∃ m, k = m + 1 := ⟨k - 1, by omega⟩
    simp only [impl_isMatrix.l0]
    have e : matFrom r c l i = true := by unfold matFrom; rw [List.drop_eq_nil_of_le (by omega), decide_eq_true (show l.length ≤ i by omega)]; simp [matB]
    rw [if_neg (by omega), e, Bool.true_and]
    congr 1
    rw [Bool.eq_iff_iff, decide_eq_true_eq, decide_eq_true_eq]; omega
  | succ d ih =>
    intro k i hi hk
    obtain ⟨k, rfl⟩ : ∃ m, k = m + 1 := ⟨k - 1, by omega⟩
    have hlt : i < l.length := by omega
    simp only [impl_isMatrix.l0]
    rw [if_pos (show (i : Int) < (l.length : Int) by omega), if_pos (show 0 ≤ (i : Int) by omega), if_pos (show (i : Int) < (l.length : Int) by omega), rdEntryS hlt, impl_in_eq, impl_in_eq, impl_in_eq, matFrom_step r c l i hlt,
      w64 (n := r - 1) (by omega) (by omega), w64 (n := c - 1) (by omega) (by omega), w64 (n := (i : Int) + 1) (by omega) (by omega), show (i : Int) + 1 = ((i + 1 : Nat) : Int) by omega]
    simp only [bS]
    by_cases h1 : 0 ≤ (l[i]).f0 ∧ (l[i]).f0 ≤ r - 1
    · by_cases h2 : 0 ≤ (l[i]).f1 ∧ (l[i]).f1 ≤ c - 1
      · by_cases h3 : 1 ≤ (l[i]).f2 ∧ (l[i]).f2 ≤ 2130706432
        · have e : entB r c l[i] = true := by unfold entB; rw [decide_eq_true h1, decide_eq_true h2, decide_eq_true h3]; rfl
          rw [decide_eq_true h1, decide_eq_true h2, decide_eq_true h3, e]
          simp only [if_true, Bool.true_and]
          by_cases h4 : i = 0
          · rw [if_neg (by omega), decide_eq_true h4, Bool.true_or, Bool.true_and]
            exact ih k (i + 1) (by omega) (by omega)
          · have hp : i - 1 < l.length := by omega
            have ei : (i : Int) - 1 = ((i - 1 : Nat) : Int) := by omega
            rw [if_pos (by omega), w64 (n := (i : Int) - 1) (by omega) (by omega), ei, if_pos (by omega), if_pos (by omega), rdEntryS hp, decide_eq_false h4, Bool.false_or, getD_at hp]
            obtain ⟨q, e5, e6⟩ := order_eq l[i - 1] l[i] (k := k) (by omega)
            rw [e5]
            simp only [bS]
            by_cases h5 : q ≥ 0
            · have e7 : befB l[i - 1] l[i] = false := by
                rw [Bool.eq_false_iff]; intro h; exact (e6.2 h) h5
              rw [if_pos h5, e7]; rfl
            · rw [if_neg h5, e6.1 h5, Bool.true_and]
              exact ih k (i + 1) (by omega) (by omega)
        · have e : entB r c l[i] = false := by unfold entB; rw [decide_eq_false h3, Bool.and_false]
          rw [decide_eq_true h1, decide_eq_true h2, decide_eq_false h3, e]; rfl
      · have e : entB r c l[i] = false := by unfold entB; rw [decide_eq_false h2, Bool.and_false, Bool.false_and]
        rw [decide_eq_true h1, decide_eq_false h2, e]; rfl
    · have e : entB r c l[i] = false := by unfold entB; rw [decide_eq_false h1, Bool.false_and, Bool.false_and]
      rw [decide_eq_false h1, e]; rfl
def matOK (r c : Int) (l : List S53) : Bool := matB r c l && decide (l.length ≤ 200)
theorem isMatrix_eq {l : List S53} (hl : l.length ≤ 1048576) {r c : Int} (hr : 0 ≤ r) (hr2 : r ≤ 1000000) (hc : 0 ≤ c) (hc2 : c ≤ 1000000) {k : Nat} (hk : l.length + 10 < k) : impl_isMatrix.f k l r c = some (matOK r c l) := by
  have h := isMatrix_l0 l hl r c hr hr2 hc hc2 l.length k 0 (by omega) hk
  have e : matFrom r c l 0 = matB r c l := by unfold matFrom; rw [List.drop_zero]; simp
  rw [Int.natCast_zero, e] at h
  exact h
end Go.Proofs.Ytekijbcblajjbaa.PT
end
section
/- Tables turned in place, folded, and read at a point: both sides walk the same numbers. -/
namespace Go.Proofs.Ytekijbcblajjbaa.PT
open Go.RowKit Go.Proofs.YtekijbcblajjbaaW.PrintWords Go.Proofs.YtekijbcblajjbaaW.PrintLast Go.Proofs.YtekijbcblajjbaaW.PrintMore
set_option linter.unusedVariables false
set_option linter.unusedSimpArgs false
/-! a table turned in place -/
/-! a table folded -/
/-! a table at a point -/
theorem shl_small0 : ∀ n : Fin 10, shl .i64 1 (n.val : Int) = ((2 ^ n.val : Nat) : Int) := by decide +kernel
theorem shl_small {n : Nat} (h : n < 10) : shl .i64 1 (n : Int) = ((2 ^ n : Nat) : Int) := shl_small0 ⟨n, h⟩
end Go.Proofs.Ytekijbcblajjbaa.PT
end
section
/- Powers, inverses and the line: what the printed functions of chapter 2 come to. -/
namespace Go.Proofs.Ytekijbcblajjbaa.PT
open Go.RowKit Go.Proofs.YtekijbcblajjbaaW.PrintWords Go.Proofs.YtekijbcblajjbaaW.PrintLast Go.Proofs.YtekijbcblajjbaaW.PrintMore
set_option linter.unusedVariables false
set_option linter.unusedSimpArgs false
end Go.Proofs.Ytekijbcblajjbaa.PT
end
section
/- Words: their transform, its inverse, and a word folded: both sides walk the same numbers. -/
namespace Go.Proofs.Ytekijbcblajjbaa.PT
open Go.RowKit Go.Proofs.YtekijbcblajjbaaW.PrintWords Go.Proofs.YtekijbcblajjbaaW.PrintLast Go.Proofs.YtekijbcblajjbaaW.PrintMore
set_option linter.unusedVariables false
set_option linter.unusedSimpArgs false
theorem u64w {n : Int} (h0 : 0 ≤ n) (h1 : n ≤ 4611686018427387904) : IntKind.u64.wrap n = n := by
  simp only [IntKind.wrap, IntKind.bits, IntKind.signed]; simp; omega
/-! logarithms and roots -/
/-! a pair folded -/
/-! the transform -/
end Go.Proofs.Ytekijbcblajjbaa.PT
end
section
/- The field's order is a prime: powers, inverses and the greater field's laws. -/
namespace Go.Proofs.Ytekijbcblajjbaa.PT
open Go.RowKit Go.Proofs.YtekijbcblajjbaaW.PrintWords Go.Proofs.YtekijbcblajjbaaW.PrintLast Go.Proofs.YtekijbcblajjbaaW.PrintMore
set_option linter.unusedVariables false
set_option linter.unusedSimpArgs false
end Go.Proofs.Ytekijbcblajjbaa.PT
end
section
/- Matrices times numbers, and matrices at points: both sides walk the same numbers. -/
namespace Go.Proofs.Ytekijbcblajjbaa.PT
open Go.RowKit Go.Proofs.YtekijbcblajjbaaW.PrintWords Go.Proofs.YtekijbcblajjbaaW.PrintLast Go.Proofs.YtekijbcblajjbaaW.PrintMore
set_option linter.unusedVariables false
set_option linter.unusedSimpArgs false
theorem l10List_l0 (l : List S53) (hl : l.length ≤ 200) (s t : Nat) (hs : s ≤ 9) (ht : t ≤ 9) (d : Nat) : ∀ (k i : Nat), i + d = l.length → 2 * d < k →
    spec_l10List.l0 k l s t i = some (matFrom ((2 ^ s : Nat) : Int) ((2 ^ t : Nat) : Int) l i) := by
  have hps : 2 ^ s ≤ 512 := Nat.le_trans (Nat.pow_le_pow_right (by omega) hs) (by decide)
  have hpt : 2 ^ t ≤ 512 := Nat.le_trans (Nat.pow_le_pow_right (by omega) ht) (by decide)
  induction d with
  | zero =>
    intro k i hi hk
    obtain ⟨k, rfl⟩ : ∃ m, k = m + 1 := ⟨k - 1, by omega⟩
    simp only [spec_l10List.l0]
    have e : matFrom ((2 ^ s : Nat) : Int) ((2 ^ t : Nat) : Int) l i = true := by unfold matFrom; rw [List.drop_eq_nil_of_le (by omega), decide_eq_true (show l.length ≤ i by omega)]; simp [matB]
    rw [if_neg (by omega), e]
  | succ d ih =>
    intro k i hi hk
    obtain ⟨k, rfl⟩ : ∃ m, k = m + 1 + 1 := ⟨k - 2, by omega⟩
    have hlt : i < l.length := by omega
    have hr0 : (0 : Int) ≤ ((2 ^ s : Nat) : Int) := Int.natCast_nonneg _
    have hr1 : ((2 ^ s : Nat) : Int) ≤ 512 := Int.ofNat_le.mpr hps
    have hc0 : (0 : Int) ≤ ((2 ^ t : Nat) : Int) := Int.natCast_nonneg _
    have hc1 : ((2 ^ t : Nat) : Int) ≤ 512 := Int.ofNat_le.mpr hpt
    generalize hr : ((2 ^ s : Nat) : Int) = r at *
    generalize hc : ((2 ^ t : Nat) : Int) = c at *
    have es : shl .i64 1 (s : Int) = r := by rw [shl_small (by omega), hr]
    have et : shl .i64 1 (t : Int) = c := by rw [shl_small (by omega), hc]
    simp only [spec_l10List.l0]
    rw [if_pos (show (i : Int) < (l.length : Int) by omega), if_pos (show 0 ≤ (i : Int) by omega), u64w (n := (s : Int)) (by omega) (by omega), u64w (n := (t : Int)) (by omega) (by omega), if_pos (show 0 ≤ (s : Int) by omega), es, et, rdEntryS hlt, spec_l01In_eq, spec_l01In_eq, spec_l01In_eq, matFrom_step r c l i hlt,
      w64 (n := r - 1) (by omega) (by omega), w64 (n := c - 1) (by omega) (by omega)]
    simp only [bS]
    have bad : ∀ x y z, spec_l10List.j1 (k + 1) l s t i true x y z = some false := by intro x y z; simp only [spec_l10List.j1, if_true]
    by_cases h1 : 0 ≤ (l[i]).f0 ∧ (l[i]).f0 ≤ r - 1
    · rw [decide_eq_true h1]
      simp only [if_true]
      rw [if_pos (show 0 ≤ (t : Int) by omega)]
      by_cases h2 : 0 ≤ (l[i]).f1 ∧ (l[i]).f1 ≤ c - 1
      · rw [decide_eq_true h2]
        simp only [if_true]
        by_cases h3 : 1 ≤ (l[i]).f2 ∧ (l[i]).f2 ≤ 2130706432
        · have e : entB r c l[i] = true := by unfold entB; rw [decide_eq_true h1, decide_eq_true h2, decide_eq_true h3]; rfl
          rw [decide_eq_true h3, e]
          simp only [Bool.not_true, Bool.true_and, spec_l10List.j1, Bool.false_eq_true, if_false]
          rw [w64 (n := (i : Int) + 1) (by omega) (by omega), show (i : Int) + 1 = ((i + 1 : Nat) : Int) by omega]
          by_cases h4 : i = 0
          · rw [if_neg (by omega), decide_eq_true h4, Bool.true_or, Bool.true_and]
            exact ih k (i + 1) (by omega) (by omega)
          · have hp : i - 1 < l.length := by omega
            have ei : (i : Int) - 1 = ((i - 1 : Nat) : Int) := by omega
            rw [if_pos (by omega), w64 (n := (i : Int) - 1) (by omega) (by omega), ei, if_pos (by omega), if_pos (by omega), rdEntryS hp, decide_eq_false h4, Bool.false_or, getD_at hp]
            unfold befB
            by_cases h5 : (l[i - 1]).f0 > (l[i]).f0
            · rw [if_pos h5, decide_eq_false (by omega)]; rfl
            · rw [if_neg h5]
              by_cases h6 : (l[i - 1]).f0 = (l[i]).f0
              · rw [if_pos h6]
                by_cases h7 : (l[i - 1]).f1 ≥ (l[i]).f1
                · rw [if_pos h7, decide_eq_false (by omega)]; rfl
                · rw [if_neg h7, decide_eq_true (by omega), Bool.true_and]
                  exact ih k (i + 1) (by omega) (by omega)
              · rw [if_neg h6, decide_eq_true (by omega), Bool.true_and]
                exact ih k (i + 1) (by omega) (by omega)
        · have e : entB r c l[i] = false := by unfold entB; rw [decide_eq_false h3, Bool.and_false]
          rw [decide_eq_false h3, e, Bool.not_false, bad]; rfl
      · have e : entB r c l[i] = false := by unfold entB; rw [decide_eq_false h2, Bool.and_false, Bool.false_and]
        rw [decide_eq_false h2, e]
        simp only [Bool.false_eq_true, if_false]
        rw [bad]; rfl
    · have e : entB r c l[i] = false := by unfold entB; rw [decide_eq_false h1, Bool.false_and, Bool.false_and]
      rw [decide_eq_false h1, e]
      simp only [Bool.false_eq_true, if_false]
      rw [bad]; rfl
theorem l10List_eq {l : List S53} {s t : Nat} (hs : s ≤ 9) (ht : t ≤ 9) {k : Nat} (hk : 500 < k) : spec_l10List.f k l s t = some (matOK ((2 ^ s : Nat) : Int) ((2 ^ t : Nat) : Int) l) := by
  unfold spec_l10List.f matOK
  by_cases h : (l.length : Int) > 200
  · rw [if_pos h, decide_eq_false (by omega), Bool.and_false]
  · have e := l10List_l0 l (by omega) s t hs ht l.length k 0 (by omega) (by omega)
    have e2 : matFrom ((2 ^ s : Nat) : Int) ((2 ^ t : Nat) : Int) l 0 = matB ((2 ^ s : Nat) : Int) ((2 ^ t : Nat) : Int) l := by unfold matFrom; rw [List.drop_zero]; simp
    rw [Int.natCast_zero, e2] at e
    rw [if_neg h, decide_eq_true (by omega), Bool.and_true, e]
/-! at points -/
end Go.Proofs.Ytekijbcblajjbaa.PT
end
section
/- Systems: both sides ask the same of a system and of numbers, and come to the same failed row. -/
namespace Go.Proofs.Ytekijbcblajjbaa.PT
open Go.RowKit Go.Proofs.YtekijbcblajjbaaW.PrintWords Go.Proofs.YtekijbcblajjbaaW.PrintLast Go.Proofs.YtekijbcblajjbaaW.PrintMore
set_option linter.unusedVariables false
set_option linter.unusedSimpArgs false
theorem szSystem_fit {a b c : Int} {x y z : List S105} (h : x.length + y.length + z.length ≤ 1048576) : laws_szSystem.f a b c x y z 1048576 = some ((1048576 : Int) - x.length - y.length - z.length) := by
  unfold laws_szSystem.f
  rw [szEntryS_fit (by omega) (by omega)]
  simp only [bS]
  rw [if_neg (by omega), szEntryS_fit (by omega) (by omega)]
  simp only [bS]
  rw [if_neg (by omega), szEntryS_fit (by omega) (by omega)]
  simp only [bS]
  rw [if_neg (by omega)]
theorem szSystem_big {a b c : Int} {x y z : List S105} (hx : x.length ≤ 9223372036854775807) (hy : y.length ≤ 9223372036854775807) (hz : z.length ≤ 9223372036854775807) (h : ¬ x.length + y.length + z.length ≤ 1048576) : laws_szSystem.f a b c x y z 1048576 = some (-1) := by
  unfold laws_szSystem.f
  by_cases h1 : x.length ≤ 1048576
  · rw [szEntryS_fit (by omega) (by omega)]
    simp only [bS]
    rw [if_neg (by omega)]
    by_cases h2 : x.length + y.length ≤ 1048576
    · rw [szEntryS_fit (by omega) (by omega)]
      simp only [bS]
      rw [if_neg (by omega), szEntryS_big (by omega) (by omega) hz (by omega)]
      rfl
    · rw [szEntryS_big (by omega) (by omega) hy (by omega)]
      rfl
  · rw [szEntryS_big (by omega) (by omega) hx (by omega)]
    rfl
theorem toSystem_eq {a b c : Int} {x y z : List S105} (h : x.length + y.length + z.length ≤ 1048576) {k : Nat} (hk : 1048576 < k) : laws_toSystem.f k a b c x y z = some (a, b, c, convEntryS x, convEntryS y, convEntryS z) := by
  unfold laws_toSystem.f
  rw [toEntryS_eq (by omega) (by omega), toEntryS_eq (by omega) (by omega), toEntryS_eq (by omega) (by omega)]
  rfl
theorem eqSystem_refl {a b c : Int} {x y z : List S53} (hx : x.length ≤ 1048576) (hy : y.length ≤ 1048576) (hz : z.length ≤ 1048576) {k : Nat} (hk : 1048576 < k) : laws_eqSystem.f k a b c x y z a b c x y z = some true := by
  unfold laws_eqSystem.f
  rw [if_pos rfl, if_pos rfl, if_pos rfl, eqEntryS_refl hx (by omega), eqEntryS_refl hy (by omega), eqEntryS_refl hz (by omega)]
  rfl
def mat3 (r c : Int) (x y z : List S53) : Bool := matOK r c x && (matOK r c y && matOK r c z)
/-- A system is right. -/
def sysB (a b c : Int) (x y z : List S53) : Bool := decide (1 ≤ a ∧ a ≤ 5) && (decide (2 ≤ b ∧ b ≤ 5) && (decide (0 ≤ c ∧ c ≤ ((2 ^ (b.toNat - 1) : Nat) : Int) - 1) && mat3 ((2 ^ a.toNat : Nat) : Int) ((2 ^ b.toNat : Nat) : Int) x y z))
theorem half_eq {b : Int} (h1 : 1 ≤ b) (h2 : b ≤ 5) (a c : Int) (x y z : List S53) : impl_System_half.f a b c x y z = some ((2 ^ (b.toNat - 1) : Nat) : Int) := by
  unfold impl_System_half.f
  rw [w64 (by omega) (by omega), if_pos (by omega), show b - 1 = ((b.toNat - 1 : Nat) : Int) by omega, Go.Proofs.Ytekijbcblajjbaa.PT.shl_small (by omega)]
theorem two_le (t : Nat) (h : t ≤ 5) : 2 ^ t ≤ 32 := Nat.le_trans (Nat.pow_le_pow_right (by omega) h) (by decide)
theorem mats_impl {s t : Nat} (hs : s ≤ 5) (ht : t ≤ 5) {x y z : List S53} (hx : x.length ≤ 1048576) (hy : y.length ≤ 1048576) (hz : z.length ≤ 1048576) {k : Nat} (hk : 1050000 < k) (a b c : Int) (ha : a = (s : Int)) (hb : b = (t : Int)) :
    impl_SystemOK.j0 (k + 1) false a b c x y z = some (mat3 ((2 ^ s : Nat) : Int) ((2 ^ t : Nat) : Int) x y z) := by
  subst ha hb
  have h1 := two_le s hs
  have h2 := two_le t ht
  simp only [impl_SystemOK.j0, Bool.false_eq_true, if_false]
  rw [if_pos (show 0 ≤ (s : Int) by omega), if_pos (show 0 ≤ (t : Int) by omega), Go.Proofs.Ytekijbcblajjbaa.PT.shl_small (by omega), Go.Proofs.Ytekijbcblajjbaa.PT.shl_small (by omega),
    isMatrix_eq hx (Int.natCast_nonneg _) (by omega) (Int.natCast_nonneg _) (by omega) (by omega), isMatrix_eq hy (Int.natCast_nonneg _) (by omega) (Int.natCast_nonneg _) (by omega) (by omega), isMatrix_eq hz (Int.natCast_nonneg _) (by omega) (Int.natCast_nonneg _) (by omega) (by omega)]
  simp only [bS]
  unfold mat3
  cases matOK ((2 ^ s : Nat) : Int) ((2 ^ t : Nat) : Int) x <;> cases matOK ((2 ^ s : Nat) : Int) ((2 ^ t : Nat) : Int) y <;> cases matOK ((2 ^ s : Nat) : Int) ((2 ^ t : Nat) : Int) z <;> rfl
theorem SystemOK_eq {a b c : Int} {x y z : List S53} (hx : x.length ≤ 1048576) (hy : y.length ≤ 1048576) (hz : z.length ≤ 1048576) {k : Nat} (hk : 1050002 < k) :
    impl_SystemOK.f k a b c x y z = some (sysB a b c x y z) ∧ spec_SystemOK.f k a b c x y z = some (sysB a b c x y z) := by
  obtain ⟨k, rfl⟩ : ∃ m, k = m + 1 := ⟨k - 1, by omega⟩
  unfold impl_SystemOK.f spec_SystemOK.f sysB
  rw [impl_in_eq, spec_l01In_eq]
  simp only [bS]
  by_cases ha : 1 ≤ a ∧ a ≤ 5
  · rw [decide_eq_true ha, if_pos rfl, if_pos rfl, impl_in_eq, spec_l01In_eq]
    simp only [bS]
    by_cases hb : 2 ≤ b ∧ b ≤ 5
    · have e1 : IntKind.u64.wrap (b - 1) = b - 1 := by
        simp only [IntKind.wrap, IntKind.bits, IntKind.signed]; simp; omega
      have e2 : shl .i64 1 (b - 1) = ((2 ^ (b.toNat - 1) : Nat) : Int) := by
        rw [show b - 1 = ((b.toNat - 1 : Nat) : Int) by omega, Go.Proofs.Ytekijbcblajjbaa.PT.shl_small (by omega)]
      have h3 := two_le (b.toNat - 1) (by omega)
      have h4 := Nat.two_pow_pos (b.toNat - 1)
      rw [decide_eq_true hb, if_pos rfl, if_pos rfl, half_eq (by omega) (by omega), w64 (n := b - 1) (by omega) (by omega), e1, e2, if_pos (show 0 ≤ b - 1 by omega)]
      simp only [bS]
      rw [w64 (n := ((2 ^ (b.toNat - 1) : Nat) : Int) - 1) (by omega) (by omega), impl_in_eq, spec_l01In_eq]
      simp only [bS]
      by_cases hc : 0 ≤ c ∧ c ≤ ((2 ^ (b.toNat - 1) : Nat) : Int) - 1
      · have l3 := l10List_eq (l := x) (s := a.toNat) (t := b.toNat) (by omega) (by omega) (k := k + 1) (by omega)
        have l4 := l10List_eq (l := y) (s := a.toNat) (t := b.toNat) (by omega) (by omega) (k := k + 1) (by omega)
        have l5 := l10List_eq (l := z) (s := a.toNat) (t := b.toNat) (by omega) (by omega) (k := k + 1) (by omega)
        rw [show ((a.toNat : Nat) : Int) = a by omega, show ((b.toNat : Nat) : Int) = b by omega] at l3 l4 l5
        rw [decide_eq_true hc, if_pos rfl, Bool.not_true, mats_impl (s := a.toNat) (t := b.toNat) (by omega) (by omega) hx hy hz (by omega) a b c (by omega) (by omega), l3, l4, l5]
        simp only [bS, Bool.true_and]
        refine ⟨trivial, ?_⟩
        unfold mat3
        cases matOK ((2 ^ a.toNat : Nat) : Int) ((2 ^ b.toNat : Nat) : Int) x <;> cases matOK ((2 ^ a.toNat : Nat) : Int) ((2 ^ b.toNat : Nat) : Int) y <;> cases matOK ((2 ^ a.toNat : Nat) : Int) ((2 ^ b.toNat : Nat) : Int) z <;> rfl
      · rw [decide_eq_false hc]
        simp only [Bool.not_false, impl_SystemOK.j0, if_true, Bool.false_and, Bool.true_and, Bool.false_eq_true, if_false]
        exact ⟨trivial, trivial⟩
    · rw [decide_eq_false hb]
      simp only [impl_SystemOK.j0, if_true, Bool.false_and, Bool.true_and, Bool.false_eq_true, if_false]
      exact ⟨trivial, trivial⟩
  · rw [decide_eq_false ha]
    simp only [impl_SystemOK.j0, if_true, Bool.false_and, Bool.false_eq_true, if_false]
    exact ⟨trivial, trivial⟩
end Go.Proofs.Ytekijbcblajjbaa.PT
end
section
/- A system is right alike on both sides, and stays as it was. -/
namespace Go.Proofs.Ytekijbcblajjbaa.fnExactSystemOK
open Go.Proofs.Ytekijbcblajjbaa.PT Go.RowKit Go.Proofs.YtekijbcblajjbaaO
set_option linter.unusedSimpArgs false
theorem pureFnExactSystemOK : Pure := by
  intro x hx
  have hx3 : x.f3.length ≤ 9223372036854775807 := hx.2.2.2.1.1
  have hx4 : x.f4.length ≤ 9223372036854775807 := hx.2.2.2.2.1.1
  have hx5 : x.f5.length ≤ 9223372036854775807 := hx.2.2.2.2.2.1
  by_cases h : x.f3.length + x.f4.length + x.f5.length ≤ 1048576
  · have h3 := convEntryS_length x.f3
    have h4 := convEntryS_length x.f4
    have h5 := convEntryS_length x.f5
    refine ⟨2000000, ?_⟩
    generalize hK : 2000000 = K
    obtain ⟨e1, e2⟩ := SystemOK_eq (a := x.f0) (b := x.f1) (c := x.f2) (x := convEntryS x.f3) (y := convEntryS x.f4) (z := convEntryS x.f5) (by omega) (by omega) (by omega) (k := K) (by omega)
    unfold laws_FnExactSystemOK.f
    rw [szSystem_fit h]
    simp only [bS]
    rw [if_neg (by omega), toSystem_eq h (by omega)]
    simp only [bS]
    rw [e1, e2]
    simp only [bS, bne_self_eq_false, Bool.false_eq_true, if_false]
    rw [eqSystem_refl (by omega) (by omega) (by omega) (by omega)]
    simp only [bS, if_true]
  · refine ⟨1, ?_⟩
    unfold laws_FnExactSystemOK.f
    rw [szSystem_big hx3 hx4 hx5 h]
    simp
end Go.Proofs.Ytekijbcblajjbaa.fnExactSystemOK
end
