/- Part 3 of the proof of FnExactWitnessOf: what functions compute, shown step by step, and what that says (the claim's last text states the law). -/
import Derived.Test.YtekijbcblajjbaaProg
import Derived.Test.YtekijbcblajjbaaVMore
import Derived.Test.YtekijbcblajjbaaVWords
import Derived.Test.YtekijbcblajjbaaVLast
import Derived.Test.YtekijbcblajjbaaVTab
import Derived.Test.YtekijbcblajjbaaVQPut
import Derived.Test.YtekijbcblajjbaaVApart
import Derived.Test.YtekijbcblajjbaaVArr
import Derived.Test.YtekijbcblajjbaaVZeros
import Derived.Test.YtekijbcblajjbaaVFoot
import Derived.Test.YtekijbcblajjbaaVKept
import Derived.Test.YtekijbcblajjbaaVShare
import Derived.Test.YtekijbcblajjbaaVN
import Derived.Test.YtekijbcblajjbaaVFootNe
import Derived.Test.YtekijbcblajjbaaVAt
import Derived.Test.YtekijbcblajjbaaVRepsOne
import Derived.Test.YtekijbcblajjbaaVGuard
import Derived.Test.YtekijbcblajjbaaVNEv
import Derived.Test.YtekijbcblajjbaaRows
import Derived.JoinedOf
import Derived.WalkKit
import Derived.ProofKit
import Derived.Below
import Derived.Deep.Draws
import Derived.Deep.AppendLies
import Derived.Maps.AppendAt
import Derived.OwnWalk
import Derived.Laws.BytesArg
import Derived.Laws.MakeOwn
import Derived.Laws.OwnMore
import Derived.Deep.OwnRows
import Derived.Tactics
import Derived.Lib.ConvBytes
import Derived.Laws.Slices
import Derived.KernelRfl
import Derived.RowKit3
import Derived.Deep.LoopGhost
import Derived.Deep.QuietTactic
import Derived.BigQuiet
import Derived.WideLaws
import Derived.Deep.DeepCutAuto
import Derived.Deep.CutBlock
import Derived.Deep.RegionHeld3
import Derived.Laws.Rows
import Derived.Lib.AppendStr
import Derived.ArgAppend
import Derived.Laws.IdiomCopy
import Derived.OrdersHeld
import Derived.Laws.BitsLemmas
import Derived.RowKit
import Derived.Lib.BufferMore
import Derived.Lib.SliceRun
import Derived.OpenShut
import Derived.ShutString
import Derived.ChangeOld
import Derived.SizedLaws
import Derived.Deep.Slices
import Derived.ChangeArms
import Derived.Test.YtekijbcblajjbaaZFnExactWitnessOf2
section
namespace Go.Proofs.Ytekijbcblajjbaa.PT
open Go.RowKit Go.Proofs.YtekijbcblajjbaaW.PrintWords Go.Proofs.YtekijbcblajjbaaW.PrintLast Go.Proofs.YtekijbcblajjbaaW.PrintMore
attribute [local go_sem] max2_int min2_int max_two min_two max_three min_three max_four min_four   -- for this text's walks alone
set_option linter.unusedVariables false
set_option linter.unusedSimpArgs false

/-! ### impl_runCode: function 73 -/
mutual
def impl_runCode.j0 : Nat → List Int → List Int → Bool → List (S115) → Option (Int)
 | 0, _, _, _, _ => none
 | k + 1, x1, x2, x7, x102000 => if x7 = true then (some 2) else ((impl_CircuitOK.f k x102000).bind fun t102 => (if t102 = true then ((impl_are_int_FieldOK.f x1).bind fun t103 => (if t103 = true then ((impl_are_int_FieldOK.f x2).bind fun t104 => (impl_runCode.j1 k x1 x2 (!t104) x102000)) else (impl_runCode.j1 k x1 x2 true x102000))) else (some 19)))
def impl_runCode.j1 : Nat → List Int → List Int → Bool → List (S115) → Option (Int)
 | 0, _, _, _, _ => none
 | k + 1, x1, x2, x20, x102000 => if x20 = true then (some 1) else ((impl_Circuit_countOf.f k x102000 2).bind fun t105 => (if (x1.length : Int) = t105 then ((impl_Circuit_countOf.f k x102000 1).bind fun t106 => (if (x2.length : Int) = t106 then (some 0) else (some 8))) else (some 8)))
end
def impl_runCode.f (k : Nat) (l0_0 : List (S115)) (l1 : List Int) (l2 : List Int) : Option (Int) := if (l1.length : Int) > 4096 then (impl_runCode.j0 k l1 l2 true l0_0) else (impl_runCode.j0 k l1 l2 (decide ((l2.length : Int) > 4096)) l0_0)
theorem impl_runCode.mono_l : ∀ k, (∀ y0 y1 y2 y3, LeO (impl_runCode.j0 k y0 y1 y2 y3) (impl_runCode.j0 (k + 1) y0 y1 y2 y3)) ∧ (∀ y0 y1 y2 y3, LeO (impl_runCode.j1 k y0 y1 y2 y3) (impl_runCode.j1 (k + 1) y0 y1 y2 y3))
 | 0 => ⟨fun _ _ _ _ r h => by simp [impl_runCode.j0] at h, fun _ _ _ _ r h => by simp [impl_runCode.j1] at h⟩
 | k + 1 => by
  obtain ⟨ih0, ih1⟩ := impl_runCode.mono_l k
  refine ⟨?_, ?_⟩
  ·
   intro y0 y1 y2 y3
   unfold impl_runCode.j0
   repeat' first
   | (with_reducible exact ih0 _ _ _ _)
   | (with_reducible exact ih1 _ _ _ _)
   | (with_reducible exact impl_CircuitOK.mono _ _)
   | (with_reducible exact impl_Circuit_countOf.mono _ _ _)
   | (with_reducible exact LeO.refl _)
   | (with_reducible exact LeO.none _)
   | (with_reducible refine LeO.ite ?_ ?_)
   | (with_reducible refine LeO.bind ?_ (fun _ => ?_))
   | exact ih0 _ _ _ _
   | exact ih1 _ _ _ _
   | exact impl_CircuitOK.mono _ _
   | exact impl_Circuit_countOf.mono _ _ _
   | exact LeO.none _
   | refine LeO.ite ?_ ?_
   | refine LeO.bind ?_ (fun _ => ?_)
  ·
   intro y0 y1 y2 y3
   unfold impl_runCode.j1
   repeat' first
   | (with_reducible exact ih0 _ _ _ _)
   | (with_reducible exact ih1 _ _ _ _)
   | (with_reducible exact impl_CircuitOK.mono _ _)
   | (with_reducible exact impl_Circuit_countOf.mono _ _ _)
   | (with_reducible exact LeO.refl _)
   | (with_reducible exact LeO.none _)
   | (with_reducible refine LeO.ite ?_ ?_)
   | (with_reducible refine LeO.bind ?_ (fun _ => ?_))
   | exact ih0 _ _ _ _
   | exact ih1 _ _ _ _
   | exact impl_CircuitOK.mono _ _
   | exact impl_Circuit_countOf.mono _ _ _
   | exact LeO.none _
   | refine LeO.ite ?_ ?_
   | refine LeO.bind ?_ (fun _ => ?_)
theorem impl_runCode.mono : ∀ a0 a1 a2 k, LeO (impl_runCode.f k a0 a1 a2) (impl_runCode.f (k + 1) a0 a1 a2) := by
 intro a0 a1 a2 k
 obtain ⟨ih0, ih1⟩ := impl_runCode.mono_l k
 unfold impl_runCode.f
 repeat' first
   | (with_reducible exact ih0 _ _ _ _)
   | (with_reducible exact ih1 _ _ _ _)
   | (with_reducible exact impl_CircuitOK.mono _ _)
   | (with_reducible exact impl_Circuit_countOf.mono _ _ _)
   | (with_reducible exact LeO.refl _)
   | (with_reducible exact LeO.none _)
   | (with_reducible refine LeO.ite ?_ ?_)
   | (with_reducible refine LeO.bind ?_ (fun _ => ?_))
   | exact ih0 _ _ _ _
   | exact ih1 _ _ _ _
   | exact impl_CircuitOK.mono _ _
   | exact impl_Circuit_countOf.mono _ _ _
   | exact LeO.none _
   | refine LeO.ite ?_ ?_
   | refine LeO.bind ?_ (fun _ => ?_)
set_option maxHeartbeats 8000000 in
set_option maxRecDepth 100000 in
theorem impl_runCode.calls (k : Nat) (A0_0 : Option Addr) (c0_0 : Nat) (l0_0 : List (S115)) (A1 : Option Addr) (c1 : Nat) (l1 : List Int) (A2 : Option Addr) (c2 : Nat) (l2 : List Int) (r : Int) (w : World) (hr0_0 : Kd.C k115 w A0_0 l0_0.length l0_0) (hc0_0 : l0_0.length ≤ c0_0) (hr1 : Kd.C (Kd.int .i64) w A1 l1.length l1) (hc1 : l1.length ≤ c1) (hr2 : Kd.C (Kd.int .i64) w A2 l2.length l2) (hc2 : l2.length ≤ c2) (h : impl_runCode.f k l0_0 l1 l2 = some r) :
  Calls Try.prog 73 #[.agg #[.slice A0_0 l0_0.length c0_0], .slice A1 l1.length c1, .slice A2 l2.length c2] w fun e w' => e = .returned (.int .i64 r) ∧ Below w.heap.size w w' := by
 have hu63 := Try.underlying63
 have HR0_0 := am_ hr0_0
 have HC0_0 := am_ hc0_0
 clear hr0_0 hc0_0
 have HR1 := am_ hr1
 have HC1 := am_ hc1
 clear hr1 hc1
 have HR2 := am_ hr2
 have HC2 := am_ hc2
 clear hr2 hc2
 have HB := am_ (Below.refl w.heap.size w)
 have H : (if (l1.length : Int) > 4096 then (impl_runCode.j0 k l1 l2 true l0_0) else (impl_runCode.j0 k l1 l2 (decide ((l2.length : Int) > 4096)) l0_0)) = some r := h
 clear h
 have HC4 := am_ H
 clear H
 go_enter Try.func73, Try.ntmps73
 go_upto_region 1 with (first | ((with_reducible refine gate_dst (N := 3) rfl ?_); (try (refine gate_guard (by rfl) ?_; dsimp only)); refine box_event ?hg (N := 3) ?hd (cs := #[.slice A0_0 l0_0.length c0_0]) (t := 63) ?hr ?_; (case hd => rfl); (case hg => rfl); (case hr => first | (go_simp; done) | (go_simp; rfl)); intro gb101 hg w5 hbox hb; have n0_ := am_ (below_step qz1_ hb); have n1_ := am_ (hbox); have n2_ := am_ ((by rw [hg]; exact (below_size qz1_) : w.heap.size ≤ gb101)); have n3_ := am_ ((by rw [hg]; exact (below_size qz1_) : w.heap.size ≤ gb101)); clear HB; have HB := n0_; have BK101 := n1_; have GW101 := n2_; have GE101 := n3_; clear n0_ n1_ n2_ n3_; clear hb hbox hg))
 (try simp only [Act.put, List.setIfInBounds_toArray, List.set_cons_zero, List.set_cons_succ])
 go_cut [7] (fun v7 wc => ∃ (kq : Nat) (x7_3 : Bool), v7 = .bool x7_3 ∧ Aside0 (impl_runCode.j0 kq l1 l2 x7_3 l0_0 = some r) ∧ Aside0 (kq ≤ k) ∧ Aside0 (wc.heap[gb101]? = some (.cells #[(.slice A0_0 l0_0.length c0_0)] 63 (0, 0))) ∧ Aside0 (Below w.heap.size w wc))
 case first =>
  have H := HC4.out
  clear HC4
  by_cases c6 : (l1.length : Int) > 4096
  ·
   rw [if_pos c6] at H
   have c6b0 : decide (4096 < (l1.length : Int)) = true := decide_eq_true c6
   have c6b1 : decide (4096 < l1.length) = true := decide_eq_true (by omega)
   clear c6
   (first | rw [c6b0] | (simp only [i64_w, i32_w]; rw [c6b0]) | skip)
   have H' := am_ H
   clear H
   go_wp2
   go_meet
   case rel => exact ⟨_, (true), qz2_, H', ⟨qz14_⟩, ⟨qz11_⟩, ⟨qz10_⟩⟩
  ·
   rw [if_neg c6] at H
   have c6b0 : decide (4096 < (l1.length : Int)) = false := decide_eq_false c6
   have c6b1 : decide (4096 < l1.length) = false := decide_eq_false (by omega)
   clear c6
   (first | rw [c6b0] | (simp only [i64_w, i32_w]; rw [c6b0]) | skip)
   have H' := am_ H
   clear H
   go_wp2
   go_meet
   case rel => exact ⟨_, (decide ((l2.length : Int) > 4096)), qz2_, H', ⟨qz14_⟩, ⟨qz11_⟩, ⟨qz10_⟩⟩
 case rest =>
  clear HC4
  try clear c1
  try clear c2
  try clear p2
  try clear c6
  try clear c6b0
  try clear c6b1
  obtain ⟨kq, x7_3, rfl, HA, HJ3, BK101, HB⟩ := hcut
  cases kq with
  | zero => exact absurd HA.out (by simp [impl_runCode.j0])
  | succ kj3 =>
   have H := HA.out
   clear HA
   simp only [impl_runCode.j0] at H
   by_cases c7 : x7_3 = true
   ·
    subst c7
    have H1 : (some 2) = some r := by rw [if_pos rfl] at H; exact H
    clear H
    have H := H1
    clear H1
    obtain rfl := Option.some.inj H
    go_wp2
    go_ret
    exact ⟨qz5_, qz10_⟩
   ·
    replace c7 := Bool.eq_false_iff.mpr c7
    subst c7
    have H1 : ((impl_CircuitOK.f kj3 l0_0).bind fun t102 => (if t102 = true then ((impl_are_int_FieldOK.f l1).bind fun t103 => (if t103 = true then ((impl_are_int_FieldOK.f l2).bind fun t104 => (impl_runCode.j1 kj3 l1 l2 (!t104) l0_0)) else (impl_runCode.j1 kj3 l1 l2 true l0_0))) else (some 19))) = some r := by rw [if_neg (show ¬ (false = true) by decide)] at H; exact H
    clear H
    have H := H1
    clear H1
    replace H := Option.bind_eq_some_iff.mp H
    obtain ⟨t102, A80, H⟩ := H
    replace H : (if t102 = true then ((impl_are_int_FieldOK.f l1).bind fun t103 => (if t103 = true then ((impl_are_int_FieldOK.f l2).bind fun t104 => (impl_runCode.j1 kj3 l1 l2 (!t104) l0_0)) else (impl_runCode.j1 kj3 l1 l2 true l0_0))) else (some 19)) = some r := H
    have A8 := am_ A80
    clear A80
    by_cases c9 : t102 = true
    ·
     subst c9
     have H1 : ((impl_are_int_FieldOK.f l1).bind fun t103 => (if t103 = true then ((impl_are_int_FieldOK.f l2).bind fun t104 => (impl_runCode.j1 kj3 l1 l2 (!t104) l0_0)) else (impl_runCode.j1 kj3 l1 l2 true l0_0))) = some r := by rw [if_pos rfl] at H; exact H
     clear H
     have H := H1
     clear H1
     have HC10 := am_ H
     clear H
     have hcz11_0 : wc.cell? ⟨gb101, 0, none⟩ = some (.slice A0_0 l0_0.length c0_0) := (blk_cell BK101.out 0).trans rfl
     have hfz11_0 := blk_frozen BK101.out 0
     go_upto_region 5 with (first | ((with_reducible refine gate_callee (f := 96) rfl ?_); refine goesL_ (some 18) rfl rfl Try.func96 (by kernel_rfl) rfl #[.agg #[.slice A0_0 l0_0.length c0_0]] rfl qz9_ ?_; (with_reducible refine (impl_CircuitOK.calls kj3 _ _ l0_0 true _ ?side1 ?side2 A8.out).mono ?_); (case side1 => exact qc_ (Kd.C_below HR0_0.out HB.out)); (case side2 => exact HC0_0.out); rintro e w12 ⟨rfl, hb⟩; refine ⟨_, rfl, ?_⟩; have n0_ := am_ (blk_below (g := gb101) (o := .cells #[.slice A0_0 l0_0.length c0_0] 63 (0, 0)) qz11_ hb); have n1_ := am_ (below_step qz10_ hb); clear BK101; clear HB; have BK101 := n0_; have HB := n1_; clear n0_ n1_; (try clear hb); (try clear hb2); (try clear hk); (try clear hi)))
     (try simp only [Act.put, List.setIfInBounds_toArray, List.set_cons_zero, List.set_cons_succ])
     go_cut [20] (fun v20 wc => ∃ (kq : Nat) (x20_9 : Bool), v20 = .bool x20_9 ∧ Aside0 (impl_runCode.j1 kq l1 l2 x20_9 l0_0 = some r) ∧ Aside0 (kq ≤ kj3) ∧ Aside0 (wc.heap[gb101]? = some (.cells #[(.slice A0_0 l0_0.length c0_0)] 63 (0, 0))) ∧ Aside0 (Below w.heap.size w wc))
     case first =>
      have H := HC10.out
      clear HC10
      replace H := Option.bind_eq_some_iff.mp H
      obtain ⟨t103, A130, H⟩ := H
      replace H : (if t103 = true then ((impl_are_int_FieldOK.f l2).bind fun t104 => (impl_runCode.j1 kj3 l1 l2 (!t104) l0_0)) else (impl_runCode.j1 kj3 l1 l2 true l0_0)) = some r := H
      have A13 := am_ A130
      clear A130
      by_cases c14 : t103 = true
      ·
       subst c14
       have H1 : ((impl_are_int_FieldOK.f l2).bind fun t104 => (impl_runCode.j1 kj3 l1 l2 (!t104) l0_0)) = some r := by rw [if_pos rfl] at H; exact H
       clear H
       have H := H1
       clear H1
       replace H := Option.bind_eq_some_iff.mp H
       obtain ⟨t104, A150, H⟩ := H
       replace H : (impl_runCode.j1 kj3 l1 l2 (!t104) l0_0) = some r := H
       have A15 := am_ A150
       clear A150
       have H' := am_ H
       clear H
       go_wp2_with (first | ((with_reducible refine gate_callee (f := 52) rfl ?_); refine goesL_ (some 22) rfl rfl Try.func52 (by kernel_rfl) rfl #[(Value.func (.func 53) #[] #[]), .slice A1 l1.length c1] rfl qz9_ ?_; (with_reducible refine (impl_are_int_FieldOK.calls  _ _ l1 true _ ?side1 ?side2 A13.out).mono ?_); (case side1 => exact qc_ (Kd.C_below HR1.out HB.out)); (case side2 => exact HC1.out); rintro e w16 ⟨rfl, hb⟩; refine ⟨_, rfl, ?_⟩; have n0_ := am_ (blk_below (g := gb101) (o := .cells #[.slice A0_0 l0_0.length c0_0] 63 (0, 0)) qz11_ hb); have n1_ := am_ (below_step qz10_ hb); clear BK101; clear HB; have BK101 := n0_; have HB := n1_; clear n0_ n1_; (try clear hb); (try clear hb2); (try clear hk); (try clear hi)) | (go_at_call 52; (with_reducible refine (impl_are_int_FieldOK.calls  _ _ l2 t104 _ ?side1 ?side2 A15.out).mono ?_); (case side1 => exact qc_ (Kd.C_below HR2.out HB.out)); (case side2 => exact HC2.out); rintro e w17 ⟨rfl, hb⟩; have n0_ := am_ (blk_below (g := gb101) (o := .cells #[.slice A0_0 l0_0.length c0_0] 63 (0, 0)) qz11_ hb); have n1_ := am_ (below_step qz10_ hb); clear BK101; clear HB; have BK101 := n0_; have HB := n1_; clear n0_ n1_; (try clear hb); (try clear hb2); (try clear hk); (try clear hi)))
       go_meet
       case rel => exact ⟨_, (!t104), qz2_, H', ⟨(by have := HJ3.out; first | omega | exact Nat.le_refl _)⟩, ⟨qz11_⟩, ⟨qz10_⟩⟩
      ·
       replace c14 := Bool.eq_false_iff.mpr c14
       subst c14
       have H1 : (impl_runCode.j1 kj3 l1 l2 true l0_0) = some r := by rw [if_neg (show ¬ (false = true) by decide)] at H; exact H
       clear H
       have H := H1
       clear H1
       have H' := am_ H
       clear H
       go_wp2_with (first | ((with_reducible refine gate_callee (f := 52) rfl ?_); refine goesL_ (some 22) rfl rfl Try.func52 (by kernel_rfl) rfl #[(Value.func (.func 53) #[] #[]), .slice A1 l1.length c1] rfl qz9_ ?_; (with_reducible refine (impl_are_int_FieldOK.calls  _ _ l1 false _ ?side1 ?side2 A13.out).mono ?_); (case side1 => exact qc_ (Kd.C_below HR1.out HB.out)); (case side2 => exact HC1.out); rintro e w18 ⟨rfl, hb⟩; refine ⟨_, rfl, ?_⟩; have n0_ := am_ (blk_below (g := gb101) (o := .cells #[.slice A0_0 l0_0.length c0_0] 63 (0, 0)) qz11_ hb); have n1_ := am_ (below_step qz10_ hb); clear BK101; clear HB; have BK101 := n0_; have HB := n1_; clear n0_ n1_; (try clear hb); (try clear hb2); (try clear hk); (try clear hi)))
       go_meet
       case rel => exact ⟨_, (true), qz2_, H', ⟨(by have := HJ3.out; first | omega | exact Nat.le_refl _)⟩, ⟨qz11_⟩, ⟨qz10_⟩⟩
     case rest =>
      clear HC10
      try clear c1
      try clear c2
      try clear p2
      try clear c5
      try clear c6
      try clear c6b0
      try clear c6b1
      try clear c7
      try clear c9
      try clear c14
      try clear hcz11_0
      try clear hfz11_0
      try clear p2
      obtain ⟨kq, x20_9, rfl, HA, HJ9, BK101, HB⟩ := hcut
      cases kq with
      | zero => exact absurd HA.out (by simp [impl_runCode.j1])
      | succ kj9 =>
       have H := HA.out
       clear HA
       simp only [impl_runCode.j1] at H
       by_cases c19 : x20_9 = true
       ·
        subst c19
        have H1 : (some 1) = some r := by rw [if_pos rfl] at H; exact H
        clear H
        have H := H1
        clear H1
        obtain rfl := Option.some.inj H
        go_wp2
        go_ret
        exact ⟨qz5_, qz10_⟩
       ·
        replace c19 := Bool.eq_false_iff.mpr c19
        subst c19
        have H1 : ((impl_Circuit_countOf.f kj9 l0_0 2).bind fun t105 => (if (l1.length : Int) = t105 then ((impl_Circuit_countOf.f kj9 l0_0 1).bind fun t106 => (if (l2.length : Int) = t106 then (some 0) else (some 8))) else (some 8))) = some r := by rw [if_neg (show ¬ (false = true) by decide)] at H; exact H
        clear H
        have H := H1
        clear H1
        replace H := Option.bind_eq_some_iff.mp H
        obtain ⟨t105, A200, H⟩ := H
        replace H : (if (l1.length : Int) = t105 then ((impl_Circuit_countOf.f kj9 l0_0 1).bind fun t106 => (if (l2.length : Int) = t106 then (some 0) else (some 8))) else (some 8)) = some r := H
        have A20 := am_ A200
        clear A200
        by_cases c21 : (l1.length : Int) = t105
        ·
         rw [if_pos c21] at H
         have c21b0 : ((l1.length : Int) == t105) = true := beq_iff_eq.mpr c21
         have c21b1 : ((l1.length : Int) != t105) = false := bne_eq_false_iff_eq.mpr c21
         clear c21
         replace H := Option.bind_eq_some_iff.mp H
         obtain ⟨t106, A220, H⟩ := H
         replace H : (if (l2.length : Int) = t106 then (some 0) else (some 8)) = some r := H
         have A22 := am_ A220
         clear A220
         by_cases c23 : (l2.length : Int) = t106
         ·
          rw [if_pos c23] at H
          have c23b0 : ((l2.length : Int) == t106) = true := beq_iff_eq.mpr c23
          have c23b1 : ((l2.length : Int) != t106) = false := bne_eq_false_iff_eq.mpr c23
          clear c23
          obtain rfl := Option.some.inj H
          have hcz24_0 : wc.cell? ⟨gb101, 0, none⟩ = some (.slice A0_0 l0_0.length c0_0) := (blk_cell BK101.out 0).trans rfl
          have hfz24_0 := blk_frozen BK101.out 0
          go_wp2_with (first | ((with_reducible refine gate_callee (f := 97) rfl ?_); refine goesL_ (some 33) rfl rfl Try.func97 (by kernel_rfl) rfl #[.agg #[.slice A0_0 l0_0.length c0_0], .int .i64 2] rfl qz9_ ?_; (with_reducible refine (impl_Circuit_countOf.calls kj9 _ _ l0_0 2 t105 _ ?side1 ?side2 A20.out).mono ?_); (case side1 => exact qc_ (Kd.C_below HR0_0.out HB.out)); (case side2 => exact HC0_0.out); rintro e w25 ⟨rfl, hb⟩; refine ⟨_, rfl, ?_⟩; have n0_ := am_ (blk_below (g := gb101) (o := .cells #[.slice A0_0 l0_0.length c0_0] 63 (0, 0)) qz11_ hb); have n1_ := am_ (below_step qz10_ hb); clear BK101; clear HB; have BK101 := n0_; have HB := n1_; clear n0_ n1_; (try clear hb); (try clear hb2); (try clear hk); (try clear hi); have hcz26_0 : w25.cell? ⟨gb101, 0, none⟩ = some (.slice A0_0 l0_0.length c0_0) := (blk_cell BK101.out 0).trans rfl; have hfz26_0 := blk_frozen BK101.out 0) | (go_at_call 97; (with_reducible refine (impl_Circuit_countOf.calls kj9 _ _ l0_0 1 t106 _ ?side1 ?side2 A22.out).mono ?_); (case side1 => exact qc_ (Kd.C_below HR0_0.out HB.out)); (case side2 => exact HC0_0.out); rintro e w27 ⟨rfl, hb⟩; have n0_ := am_ (blk_below (g := gb101) (o := .cells #[.slice A0_0 l0_0.length c0_0] 63 (0, 0)) qz11_ hb); have n1_ := am_ (below_step qz10_ hb); clear BK101; clear HB; have BK101 := n0_; have HB := n1_; clear n0_ n1_; (try clear hb); (try clear hb2); (try clear hk); (try clear hi)))
          go_ret
          exact ⟨qz5_, qz10_⟩
         ·
          rw [if_neg c23] at H
          have c23b0 : ((l2.length : Int) == t106) = false := beq_eq_false_iff_ne.mpr c23
          have c23b1 : ((l2.length : Int) != t106) = true := bne_iff_ne.mpr c23
          obtain rfl := Option.some.inj H
          have hcz28_0 : wc.cell? ⟨gb101, 0, none⟩ = some (.slice A0_0 l0_0.length c0_0) := (blk_cell BK101.out 0).trans rfl
          have hfz28_0 := blk_frozen BK101.out 0
          go_wp2_with (first | ((with_reducible refine gate_callee (f := 97) rfl ?_); refine goesL_ (some 33) rfl rfl Try.func97 (by kernel_rfl) rfl #[.agg #[.slice A0_0 l0_0.length c0_0], .int .i64 2] rfl qz9_ ?_; (with_reducible refine (impl_Circuit_countOf.calls kj9 _ _ l0_0 2 t105 _ ?side1 ?side2 A20.out).mono ?_); (case side1 => exact qc_ (Kd.C_below HR0_0.out HB.out)); (case side2 => exact HC0_0.out); rintro e w29 ⟨rfl, hb⟩; refine ⟨_, rfl, ?_⟩; have n0_ := am_ (blk_below (g := gb101) (o := .cells #[.slice A0_0 l0_0.length c0_0] 63 (0, 0)) qz11_ hb); have n1_ := am_ (below_step qz10_ hb); clear BK101; clear HB; have BK101 := n0_; have HB := n1_; clear n0_ n1_; (try clear hb); (try clear hb2); (try clear hk); (try clear hi); have hcz30_0 : w29.cell? ⟨gb101, 0, none⟩ = some (.slice A0_0 l0_0.length c0_0) := (blk_cell BK101.out 0).trans rfl; have hfz30_0 := blk_frozen BK101.out 0) | (go_at_call 97; (with_reducible refine (impl_Circuit_countOf.calls kj9 _ _ l0_0 1 t106 _ ?side1 ?side2 A22.out).mono ?_); (case side1 => exact qc_ (Kd.C_below HR0_0.out HB.out)); (case side2 => exact HC0_0.out); rintro e w31 ⟨rfl, hb⟩; have n0_ := am_ (blk_below (g := gb101) (o := .cells #[.slice A0_0 l0_0.length c0_0] 63 (0, 0)) qz11_ hb); have n1_ := am_ (below_step qz10_ hb); clear BK101; clear HB; have BK101 := n0_; have HB := n1_; clear n0_ n1_; (try clear hb); (try clear hb2); (try clear hk); (try clear hi)))
          go_ret
          exact ⟨qz5_, qz10_⟩
        ·
         rw [if_neg c21] at H
         have c21b0 : ((l1.length : Int) == t105) = false := beq_eq_false_iff_ne.mpr c21
         have c21b1 : ((l1.length : Int) != t105) = true := bne_iff_ne.mpr c21
         obtain rfl := Option.some.inj H
         have hcz32_0 : wc.cell? ⟨gb101, 0, none⟩ = some (.slice A0_0 l0_0.length c0_0) := (blk_cell BK101.out 0).trans rfl
         have hfz32_0 := blk_frozen BK101.out 0
         go_wp2_with (first | ((with_reducible refine gate_callee (f := 97) rfl ?_); refine goesL_ (some 33) rfl rfl Try.func97 (by kernel_rfl) rfl #[.agg #[.slice A0_0 l0_0.length c0_0], .int .i64 2] rfl qz9_ ?_; (with_reducible refine (impl_Circuit_countOf.calls kj9 _ _ l0_0 2 t105 _ ?side1 ?side2 A20.out).mono ?_); (case side1 => exact qc_ (Kd.C_below HR0_0.out HB.out)); (case side2 => exact HC0_0.out); rintro e w33 ⟨rfl, hb⟩; refine ⟨_, rfl, ?_⟩; have n0_ := am_ (blk_below (g := gb101) (o := .cells #[.slice A0_0 l0_0.length c0_0] 63 (0, 0)) qz11_ hb); have n1_ := am_ (below_step qz10_ hb); clear BK101; clear HB; have BK101 := n0_; have HB := n1_; clear n0_ n1_; (try clear hb); (try clear hb2); (try clear hk); (try clear hi)))
         go_ret
         exact ⟨qz5_, qz10_⟩
    ·
     replace c9 := Bool.eq_false_iff.mpr c9
     subst c9
     have H1 : (some 19) = some r := by rw [if_neg (show ¬ (false = true) by decide)] at H; exact H
     clear H
     have H := H1
     clear H1
     obtain rfl := Option.some.inj H
     have hcz34_0 : wc.cell? ⟨gb101, 0, none⟩ = some (.slice A0_0 l0_0.length c0_0) := (blk_cell BK101.out 0).trans rfl
     have hfz34_0 := blk_frozen BK101.out 0
     go_wp2_with (first | ((with_reducible refine gate_callee (f := 96) rfl ?_); refine goesL_ (some 18) rfl rfl Try.func96 (by kernel_rfl) rfl #[.agg #[.slice A0_0 l0_0.length c0_0]] rfl qz9_ ?_; (with_reducible refine (impl_CircuitOK.calls kj3 _ _ l0_0 false _ ?side1 ?side2 A8.out).mono ?_); (case side1 => exact qc_ (Kd.C_below HR0_0.out HB.out)); (case side2 => exact HC0_0.out); rintro e w35 ⟨rfl, hb⟩; refine ⟨_, rfl, ?_⟩; have n0_ := am_ (blk_below (g := gb101) (o := .cells #[.slice A0_0 l0_0.length c0_0] 63 (0, 0)) qz11_ hb); have n1_ := am_ (below_step qz10_ hb); clear BK101; clear HB; have BK101 := n0_; have HB := n1_; clear n0_ n1_; (try clear hb); (try clear hb2); (try clear hk); (try clear hi)))
     go_ret
     exact ⟨qz5_, qz10_⟩


/-! ### impl_mul: function 66 -/
def impl_mul.f (a0 : Int) (a1 : Int) : Option (Int) := some (Int.tmod (wrap64 (a0 * a1)) 2130706433)
set_option maxHeartbeats 8000000 in
set_option maxRecDepth 100000 in
theorem impl_mul.calls (a0 : Int) (a1 : Int) (r : Int) (w : World) (h : impl_mul.f a0 a1 = some r) :
  Calls Try.prog 66 #[.int .i64 a0, .int .i64 a1] w fun e w' => e = .returned (.int .i64 r) ∧ Drawn0 w w' := by
 have H : (some (Int.tmod (wrap64 (a0 * a1)) 2130706433)) = some r := h
 clear h
 obtain rfl := Option.some.inj H
 go_enter Try.func66, Try.ntmps66
 go_wp2
 go_ret
 exact ⟨qz2_, qz6_⟩


/-! ### impl_add: function 67 -/
def impl_add.f (a0 : Int) (a1 : Int) : Option (Int) := some (Int.tmod (wrap64 (a0 + a1)) 2130706433)
set_option maxHeartbeats 8000000 in
set_option maxRecDepth 100000 in
theorem impl_add.calls (a0 : Int) (a1 : Int) (r : Int) (w : World) (h : impl_add.f a0 a1 = some r) :
  Calls Try.prog 67 #[.int .i64 a0, .int .i64 a1] w fun e w' => e = .returned (.int .i64 r) ∧ Drawn0 w w' := by
 have H : (some (Int.tmod (wrap64 (a0 + a1)) 2130706433)) = some r := h
 clear h
 obtain rfl := Option.some.inj H
 go_enter Try.func67, Try.ntmps67
 go_wp2
 go_ret
 exact ⟨qz2_, qz6_⟩


/-! ### impl_sub: function 98 -/
def impl_sub.f (a0 : Int) (a1 : Int) : Option (Int) := some (Int.tmod (wrap64 ((wrap64 (a0 - a1)) + 2130706433)) 2130706433)
set_option maxHeartbeats 8000000 in
set_option maxRecDepth 100000 in
theorem impl_sub.calls (a0 : Int) (a1 : Int) (r : Int) (w : World) (h : impl_sub.f a0 a1 = some r) :
  Calls Try.prog 98 #[.int .i64 a0, .int .i64 a1] w fun e w' => e = .returned (.int .i64 r) ∧ Drawn0 w w' := by
 have H : (some (Int.tmod (wrap64 ((wrap64 (a0 - a1)) + 2130706433)) 2130706433)) = some r := h
 clear h
 obtain rfl := Option.some.inj H
 go_enter Try.func98, Try.ntmps98
 go_wp2
 go_ret
 exact ⟨qz2_, qz6_⟩

end Go.Proofs.Ytekijbcblajjbaa.PT
end
section
namespace Go.Proofs.Ytekijbcblajjbaa.PT
open Go.RowKit Go.Proofs.YtekijbcblajjbaaW.PrintWords Go.Proofs.YtekijbcblajjbaaW.PrintLast Go.Proofs.YtekijbcblajjbaaW.PrintMore
attribute [local go_sem] max2_int min2_int max_two min_two max_three min_three max_four min_four   -- for this text's walks alone
set_option linter.unusedVariables false
set_option linter.unusedSimpArgs false

/-! ### impl_Circuit_run: function 74 -/
mutual
def impl_Circuit_run.l0 : Nat → List Int → List Int → List Int → List (S115) → Int → Int → Option (List Int × Bool)
 | 0, _, _, _, _, _, _ => none
 | k + 1, x1, x2, x8, x14, x15, x16 => if x16 < x15 then (if 0 ≤ x16 then (if x16 < (x14.length : Int) then (if ((rd_T115 x14 x16).f0) = 1 then (if 0 < (x2.length : Int) then (if 1 ≤ (x2.length : Int) then (if x8.length < 17592186044416 then (impl_Circuit_run.l0 k x1 (x2.drop 1) (x8 ++ [rd x2 0]) x14 x15 (wrap64 (x16 + 1))) else (none)) else (none)) else (none)) else (if ((rd_T115 x14 x16).f0) = 2 then (if 0 < (x1.length : Int) then (if 1 ≤ (x1.length : Int) then (if x8.length < 17592186044416 then (impl_Circuit_run.l0 k (x1.drop 1) x2 (x8 ++ [rd x1 0]) x14 x15 (wrap64 (x16 + 1))) else (none)) else (none)) else (none)) else (if ((rd_T115 x14 x16).f0) = 4 then (if 0 ≤ ((rd_T115 x14 x16).f1) then (if ((rd_T115 x14 x16).f1) < (x8.length : Int) then (if 0 ≤ ((rd_T115 x14 x16).f2) then (if ((rd_T115 x14 x16).f2) < (x8.length : Int) then ((impl_add.f (rd x8 ((rd_T115 x14 x16).f1)) (rd x8 ((rd_T115 x14 x16).f2))).bind fun t127 => (if x8.length < 17592186044416 then (impl_Circuit_run.l0 k x1 x2 (x8 ++ [t127]) x14 x15 (wrap64 (x16 + 1))) else (none))) else (none)) else (none)) else (none)) else (none)) else (if ((rd_T115 x14 x16).f0) = 5 then (if 0 ≤ ((rd_T115 x14 x16).f1) then (if ((rd_T115 x14 x16).f1) < (x8.length : Int) then (if 0 ≤ ((rd_T115 x14 x16).f2) then (if ((rd_T115 x14 x16).f2) < (x8.length : Int) then ((impl_sub.f (rd x8 ((rd_T115 x14 x16).f1)) (rd x8 ((rd_T115 x14 x16).f2))).bind fun t133 => (if x8.length < 17592186044416 then (impl_Circuit_run.l0 k x1 x2 (x8 ++ [t133]) x14 x15 (wrap64 (x16 + 1))) else (none))) else (none)) else (none)) else (none)) else (none)) else (if ((rd_T115 x14 x16).f0) = 6 then (if 0 ≤ ((rd_T115 x14 x16).f1) then (if ((rd_T115 x14 x16).f1) < (x8.length : Int) then (if 0 ≤ ((rd_T115 x14 x16).f2) then (if ((rd_T115 x14 x16).f2) < (x8.length : Int) then ((impl_mul.f (rd x8 ((rd_T115 x14 x16).f1)) (rd x8 ((rd_T115 x14 x16).f2))).bind fun t139 => (if x8.length < 17592186044416 then (impl_Circuit_run.l0 k x1 x2 (x8 ++ [t139]) x14 x15 (wrap64 (x16 + 1))) else (none))) else (none)) else (none)) else (none)) else (none)) else (if ((rd_T115 x14 x16).f0) = 7 then (impl_Circuit_run.j1 k x1 x2 x8 ((rd_T115 x14 x16).f3) x14 x15 x16 (((rd_T115 x14 x16).f0) == 7) ((rd_T115 x14 x16).f0) ((rd_T115 x14 x16).f1) ((rd_T115 x14 x16).f2) ((rd_T115 x14 x16).f3)) else (impl_Circuit_run.j1 k x1 x2 x8 ((rd_T115 x14 x16).f3) x14 x15 x16 (((rd_T115 x14 x16).f0) == 8) ((rd_T115 x14 x16).f0) ((rd_T115 x14 x16).f1) ((rd_T115 x14 x16).f2) ((rd_T115 x14 x16).f3)))))))) else (none)) else (none)) else (some (x8, true))
def impl_Circuit_run.j1 : Nat → List Int → List Int → List Int → Int → List (S115) → Int → Int → Bool → Int → Int → Int → Int → Option (List Int × Bool)
 | 0, _, _, _, _, _, _, _, _, _, _, _, _ => none
 | k + 1, x1, x2, x8, x11, x14, x15, x16, x77, x107000, x107001, x107002, x107003 => if x77 = true then (if 0 ≤ x107001 then (if x107001 < (x8.length : Int) then (if x107000 = 7 then (if 0 ≤ x107002 then (if x107002 < (x8.length : Int) then (if (rd x8 x107001) = (rd x8 x107002) then (if x107000 = 8 then (if (rd x8 x107001) > 1 then (some (([] : List Int), false)) else (if x8.length < 17592186044416 then (impl_Circuit_run.l0 k x1 x2 (x8 ++ [rd x8 x107001]) x14 x15 (wrap64 (x16 + 1))) else (none))) else (if x8.length < 17592186044416 then (impl_Circuit_run.l0 k x1 x2 (x8 ++ [rd x8 x107001]) x14 x15 (wrap64 (x16 + 1))) else (none))) else (some (([] : List Int), false))) else (none)) else (none)) else (if x107000 = 8 then (if (rd x8 x107001) > 1 then (some (([] : List Int), false)) else (if x8.length < 17592186044416 then (impl_Circuit_run.l0 k x1 x2 (x8 ++ [rd x8 x107001]) x14 x15 (wrap64 (x16 + 1))) else (none))) else (if x8.length < 17592186044416 then (impl_Circuit_run.l0 k x1 x2 (x8 ++ [rd x8 x107001]) x14 x15 (wrap64 (x16 + 1))) else (none)))) else (none)) else (none)) else (if x8.length < 17592186044416 then (impl_Circuit_run.l0 k x1 x2 (x8 ++ [x11]) x14 x15 (wrap64 (x16 + 1))) else (none))
end
def impl_Circuit_run.f (k : Nat) (l0_0 : List (S115)) (l1 : List Int) (l2 : List Int) : Option (List Int × Bool) := impl_Circuit_run.l0 k l1 l2 (([] : List Int)) l0_0 (l0_0.length : Int) 0
theorem impl_Circuit_run.mono_l : ∀ k, (∀ y0 y1 y2 y3 y4 y5, LeO (impl_Circuit_run.l0 k y0 y1 y2 y3 y4 y5) (impl_Circuit_run.l0 (k + 1) y0 y1 y2 y3 y4 y5)) ∧ (∀ y0 y1 y2 y3 y4 y5 y6 y7 y8 y9 y10 y11, LeO (impl_Circuit_run.j1 k y0 y1 y2 y3 y4 y5 y6 y7 y8 y9 y10 y11) (impl_Circuit_run.j1 (k + 1) y0 y1 y2 y3 y4 y5 y6 y7 y8 y9 y10 y11))
 | 0 => ⟨fun _ _ _ _ _ _ r h => by simp [impl_Circuit_run.l0] at h, fun _ _ _ _ _ _ _ _ _ _ _ _ r h => by simp [impl_Circuit_run.j1] at h⟩
 | k + 1 => by
  obtain ⟨ih0, ih1⟩ := impl_Circuit_run.mono_l k
  refine ⟨?_, ?_⟩
  ·
   intro y0 y1 y2 y3 y4 y5
   unfold impl_Circuit_run.l0
   repeat' first
   | (with_reducible exact ih0 _ _ _ _ _ _)
   | (with_reducible exact ih1 _ _ _ _ _ _ _ _ _ _ _ _)
   | (with_reducible exact LeO.refl _)
   | (with_reducible exact LeO.none _)
   | (with_reducible refine LeO.ite ?_ ?_)
   | (with_reducible refine LeO.bind ?_ (fun _ => ?_))
   | exact ih0 _ _ _ _ _ _
   | exact ih1 _ _ _ _ _ _ _ _ _ _ _ _
   | exact LeO.none _
   | refine LeO.ite ?_ ?_
   | refine LeO.bind ?_ (fun _ => ?_)
  ·
   intro y0 y1 y2 y3 y4 y5 y6 y7 y8 y9 y10 y11
   unfold impl_Circuit_run.j1
   repeat' first
   | (with_reducible exact ih0 _ _ _ _ _ _)
   | (with_reducible exact ih1 _ _ _ _ _ _ _ _ _ _ _ _)
   | (with_reducible exact LeO.refl _)
   | (with_reducible exact LeO.none _)
   | (with_reducible refine LeO.ite ?_ ?_)
   | (with_reducible refine LeO.bind ?_ (fun _ => ?_))
   | exact ih0 _ _ _ _ _ _
   | exact ih1 _ _ _ _ _ _ _ _ _ _ _ _
   | exact LeO.none _
   | refine LeO.ite ?_ ?_
   | refine LeO.bind ?_ (fun _ => ?_)
theorem impl_Circuit_run.mono : ∀ a0 a1 a2 k, LeO (impl_Circuit_run.f k a0 a1 a2) (impl_Circuit_run.f (k + 1) a0 a1 a2) := by
 intro a0 a1 a2 k
 obtain ⟨ih0, ih1⟩ := impl_Circuit_run.mono_l k
 unfold impl_Circuit_run.f
 repeat' first
   | (with_reducible exact ih0 _ _ _ _ _ _)
   | (with_reducible exact ih1 _ _ _ _ _ _ _ _ _ _ _ _)
   | (with_reducible exact LeO.refl _)
   | (with_reducible exact LeO.none _)
   | (with_reducible refine LeO.ite ?_ ?_)
   | (with_reducible refine LeO.bind ?_ (fun _ => ?_))
   | exact ih0 _ _ _ _ _ _
   | exact ih1 _ _ _ _ _ _ _ _ _ _ _ _
   | exact LeO.none _
   | refine LeO.ite ?_ ?_
   | refine LeO.bind ?_ (fun _ => ?_)
set_option maxHeartbeats 8000000 in
set_option maxRecDepth 100000 in
theorem impl_Circuit_run.calls (k : Nat) (A0_0 : Option Addr) (c0_0 : Nat) (l0_0 : List (S115)) (P1_ : Nat → Prop) (A1 : Option Addr) (c1 : Nat) (l1 : List Int) (P2_ : Nat → Prop) (A2 : Option Addr) (c2 : Nat) (l2 : List Int) (r1 : List Int) (r2 : Bool) (w : World) (hr0_0 : Kd.C k115 w A0_0 l0_0.length l0_0) (hc0_0 : l0_0.length ≤ c0_0) (hs1 : Kd.V (Kd.int .i64) 3 w w.heap.size (fun k_ => P1_ k_) (.slice A1 l1.length c1) l1) (hs2 : Kd.V (Kd.int .i64) 3 w w.heap.size (fun k_ => P2_ k_) (.slice A2 l2.length c2) l2) (h : impl_Circuit_run.f k l0_0 l1 l2 = some (r1, r2)) :
  Calls Try.prog 74 #[.agg #[.slice A0_0 l0_0.length c0_0], .slice A1 l1.length c1, .slice A2 l2.length c2] w fun e w' => ∃ v0_ : Value, e = .returned (.tuple #[v0_, .bool r2]) ∧ Kd.R (Kd.int .i64) 3 w' w.heap.size (fun k_ => (w.heap.size ≤ k_)) v0_ r1 ∧ Below w.heap.size w w' := by
 have hu63 := Try.underlying63
 have hu115 := Try.underlying115
 have HR0_0 := am_ hr0_0
 have HC0_0 := am_ hc0_0
 clear hr0_0 hc0_0
 have HO1 := am_ (show Kd.V (Kd.int .i64) 3 w w.heap.size (fun k_ => ((P1_ k_ ∨ P2_ k_) ∨ w.heap.size ≤ k_)) (.slice A1 l1.length c1) l1 from Kd.V_mono hs1 (fun k_ hk => .inl (.inl hk)))
 have HO2 := am_ (show Kd.V (Kd.int .i64) 3 w w.heap.size (fun k_ => ((P1_ k_ ∨ P2_ k_) ∨ w.heap.size ≤ k_)) (.slice A2 l2.length c2) l2 from Kd.V_mono hs2 (fun k_ hk => .inl (.inr hk)))
 have HB := am_ (Below.refl w.heap.size w)
 have H : (impl_Circuit_run.l0 k l1 l2 (([] : List Int)) l0_0 (l0_0.length : Int) 0) = some (r1, r2) := h
 clear h
 obtain ⟨y102, hy102⟩ : ∃ y_ : List Int, y_ = (([] : List Int)) := ⟨_, rfl⟩
 replace H : (impl_Circuit_run.l0 k l1 l2 y102 l0_0 (l0_0.length : Int) 0) = some (r1, r2) := by first | (rw [hy102]; with_reducible exact H) | (have H2_ := (Option.bind_some _ _).symm.trans H; rw [hy102]; with_reducible exact H2_) | (have H2_ := (Option.bind_some _ _).symm.trans H; with_reducible exact H2_) | with_reducible exact H | (rw [hy102]; exact H) | exact H
 have Ny102 := am_ hy102
 clear hy102
 have H' := am_ H
 clear H
 go_enter Try.func74, Try.ntmps74
 go_wp2_with (first | ((with_reducible refine gate_dst (N := 3) rfl ?_); refine box_event ?hg (N := 3) ?hd (cs := #[.slice A0_0 l0_0.length c0_0]) (t := 63) ?hr ?_; (case hd => rfl); (case hg => rfl); (case hr => first | (go_simp; done) | (go_simp; rfl)); intro gb101 hg w4 hbox hb; have n0_ := am_ (Kd.V_below (Kd.V_elderB (by (with_reducible repeat (first | apply Kd.V_alloc | apply Kd.V_drewN | apply Kd.V_drew)); exact HO1.out) gb101 (Nat.le_of_eq hg.symm)) hb); have n1_ := am_ (Kd.V_below (Kd.V_elderB (by (with_reducible repeat (first | apply Kd.V_alloc | apply Kd.V_drewN | apply Kd.V_drew)); exact HO2.out) gb101 (Nat.le_of_eq hg.symm)) hb); have n2_ := am_ (below_step qz1_ hb); have n3_ := am_ (hbox); have n4_ := am_ ((by rw [hg]; exact (below_size qz1_) : w.heap.size ≤ gb101)); have n5_ := am_ ((by rw [hg]; exact (below_size qz1_) : w.heap.size ≤ gb101)); clear HO1; clear HO2; clear HB; have HO1 := n0_; have HO2 := n1_; have HB := n2_; have BK101 := n3_; have GW101 := n4_; have GE101 := n5_; clear n0_ n1_ n2_ n3_ n4_ n5_; clear hb hbox hg) | ((with_reducible refine gate_dst (N := 12) rfl ?_); refine Kd.R_lit (Kd.int .i64) _ 3 ?hg (N := 12) ?hd (xs := ([] : List Int)) (inner := []) (ok := fun _ => True) (okp := fun _ => True) ?hr ?hp (fun _ hk => hk) trivial (Below.refl _ _) (Nat.le_refl _) (by simp) ?_; (case hd => rfl); (case hg => rfl); (case hr => first | (go_simp; done) | (go_simp; rfl)); (case hp => exact (Reps.none _ _)); intro v103 w5 ho6 hb hg_ hnew_; clear hg_ hnew_; (first | rw [← Ny102.out] at ho6 | (simp only [Int.reduceToNat] at ho6; rw [← Ny102.out] at ho6)); have n0_ := am_ (Kd.V_elder' (by (with_reducible repeat (first | apply Kd.V_alloc | apply Kd.V_drewN | apply Kd.V_drew)); exact HO1.out) (Kd.R_base ho6) hb); have n1_ := am_ (Kd.V_elder' (by (with_reducible repeat (first | apply Kd.V_alloc | apply Kd.V_drewN | apply Kd.V_drew)); exact HO2.out) (Kd.R_base ho6) hb); have n2_ := am_ (Kd.R_lower (Kd.R_newM (M := fun k_ => (w.heap.size ≤ k_)) ho6 (below_size qz10_) (fun k_ h_ => h_)) (below_size qz10_)); have n3_ := am_ (blk_below (g := gb101) (o := .cells #[.slice A0_0 l0_0.length c0_0] 63 (0, 0)) qz11_ hb); have n4_ := am_ (below_step qz10_ hb); clear HO1; clear HO2; clear BK101; clear HB; have HO1 := n0_; have HO2 := n1_; have HO104 := n2_; have BK101 := n3_; have HB := n4_; clear n0_ n1_ n2_ n3_ n4_; clear hb ho6; have hcz7_0 : w5.cell? ⟨gb101, 0, none⟩ = some (.slice A0_0 l0_0.length c0_0) := (blk_cell BK101.out 0).trans rfl; have hfz7_0 := blk_frozen BK101.out 0))
 repeat (go_quiet (fail); try go_wp2_with (first | ((with_reducible refine gate_dst (N := 3) rfl ?_); refine box_event ?hg (N := 3) ?hd (cs := #[.slice A0_0 l0_0.length c0_0]) (t := 63) ?hr ?_; (case hd => rfl); (case hg => rfl); (case hr => first | (go_simp; done) | (go_simp; rfl)); intro gb101 hg w4 hbox hb; have n0_ := am_ (Kd.V_below (Kd.V_elderB (by (with_reducible repeat (first | apply Kd.V_alloc | apply Kd.V_drewN | apply Kd.V_drew)); exact HO1.out) gb101 (Nat.le_of_eq hg.symm)) hb); have n1_ := am_ (Kd.V_below (Kd.V_elderB (by (with_reducible repeat (first | apply Kd.V_alloc | apply Kd.V_drewN | apply Kd.V_drew)); exact HO2.out) gb101 (Nat.le_of_eq hg.symm)) hb); have n2_ := am_ (below_step qz1_ hb); have n3_ := am_ (hbox); have n4_ := am_ ((by rw [hg]; exact (below_size qz1_) : w.heap.size ≤ gb101)); have n5_ := am_ ((by rw [hg]; exact (below_size qz1_) : w.heap.size ≤ gb101)); clear HO1; clear HO2; clear HB; have HO1 := n0_; have HO2 := n1_; have HB := n2_; have BK101 := n3_; have GW101 := n4_; have GE101 := n5_; clear n0_ n1_ n2_ n3_ n4_ n5_; clear hb hbox hg) | ((with_reducible refine gate_dst (N := 12) rfl ?_); refine Kd.R_lit (Kd.int .i64) _ 3 ?hg (N := 12) ?hd (xs := ([] : List Int)) (inner := []) (ok := fun _ => True) (okp := fun _ => True) ?hr ?hp (fun _ hk => hk) trivial (Below.refl _ _) (Nat.le_refl _) (by simp) ?_; (case hd => rfl); (case hg => rfl); (case hr => first | (go_simp; done) | (go_simp; rfl)); (case hp => exact (Reps.none _ _)); intro v103 w5 ho6 hb hg_ hnew_; clear hg_ hnew_; (first | rw [← Ny102.out] at ho6 | (simp only [Int.reduceToNat] at ho6; rw [← Ny102.out] at ho6)); have n0_ := am_ (Kd.V_elder' (by (with_reducible repeat (first | apply Kd.V_alloc | apply Kd.V_drewN | apply Kd.V_drew)); exact HO1.out) (Kd.R_base ho6) hb); have n1_ := am_ (Kd.V_elder' (by (with_reducible repeat (first | apply Kd.V_alloc | apply Kd.V_drewN | apply Kd.V_drew)); exact HO2.out) (Kd.R_base ho6) hb); have n2_ := am_ (Kd.R_lower (Kd.R_newM (M := fun k_ => (w.heap.size ≤ k_)) ho6 (below_size qz10_) (fun k_ h_ => h_)) (below_size qz10_)); have n3_ := am_ (blk_below (g := gb101) (o := .cells #[.slice A0_0 l0_0.length c0_0] 63 (0, 0)) qz11_ hb); have n4_ := am_ (below_step qz10_ hb); clear HO1; clear HO2; clear BK101; clear HB; have HO1 := n0_; have HO2 := n1_; have HO104 := n2_; have BK101 := n3_; have HB := n4_; clear n0_ n1_ n2_ n3_ n4_; clear hb ho6; have hcz7_0 : w5.cell? ⟨gb101, 0, none⟩ = some (.slice A0_0 l0_0.length c0_0) := (blk_cell BK101.out 0).trans rfl; have hfz7_0 := blk_frozen BK101.out 0)))
 go_loopg [1, 2, 8, 16] k (fun kq v1 v2 v8 v16 w' => ∃ (x1_1 : List Int) (x2_1 : List Int) (x8_1 : List Int) (x16_1 : Int), v16 = .int .i64 x16_1 ∧ Aside0 (impl_Circuit_run.l0 kq x1_1 x2_1 x8_1 l0_0 (l0_0.length : Int) x16_1 = some (r1, r2)) ∧ Aside0 (kq ≤ k) ∧ Aside0 (Kd.V (Kd.int .i64) 3 w' w.heap.size (fun k_ => ((P1_ k_ ∨ P2_ k_) ∨ w.heap.size ≤ k_) ∧ some k_ ≠ (v8 : Value).ownBlock ∧ k_ ≠ gb101) v1 x1_1) ∧ Aside0 (Kd.V (Kd.int .i64) 3 w' w.heap.size (fun k_ => ((P1_ k_ ∨ P2_ k_) ∨ w.heap.size ≤ k_) ∧ some k_ ≠ (v8 : Value).ownBlock ∧ k_ ≠ gb101) v2 x2_1) ∧ Aside0 (Kd.R (Kd.int .i64) 3 w' w.heap.size (fun k_ => (w.heap.size ≤ k_)) v8 x8_1) ∧ Aside0 (w'.heap[gb101]? = some (.cells #[(.slice A0_0 l0_0.length c0_0)] 63 (0, 0))) ∧ Aside0 (Below w.heap.size w w'))
 case atStart => exact ⟨(l1), (l2), (y102), (0), qz2_, H', ⟨Nat.le_refl _⟩, ⟨by (with_reducible repeat (first | apply Kd.V_alloc | apply Kd.V_drewN | apply Kd.V_drew)); exact Kd.V_mono HO1.out (fun _ hk => ⟨hk.1.1, ⟨hk.2, hk.1.2⟩⟩)⟩, ⟨by (with_reducible repeat (first | apply Kd.V_alloc | apply Kd.V_drewN | apply Kd.V_drew)); exact Kd.V_mono HO2.out (fun _ hk => ⟨hk.1.1, ⟨hk.2, hk.1.2⟩⟩)⟩, ⟨(by (with_reducible repeat (first | apply Kd.R_alloc | apply Kd.R_drewN | apply Kd.R_drew)); exact Kd.R_mono HO104.out (fun _ hk => hk.1))⟩, ⟨qz11_⟩, ⟨qz10_⟩⟩
 case round =>
  clear H'
  (try clear c1); (try clear c2); (try clear p2); (try clear c7); (try clear hcz7_0); (try clear hfz7_0)
  obtain ⟨x1_1, x2_1, x8_1, x16_1, rfl, HA, HK1, HO_1, HO_2, HO_8, BK101, HB⟩ := hrel
  cases gk with
  | zero => exact absurd HA.out (by simp [impl_Circuit_run.l0])
  | succ k1 =>
   have H := HA.out
   clear HA
   simp only [impl_Circuit_run.l0] at H
   by_cases c8 : x16_1 < (l0_0.length : Int)
   ·
    rw [if_pos c8] at H
    have c8b0 : decide (x16_1 < (l0_0.length : Int)) = true := decide_eq_true c8
    clear c8
    by_cases c9 : 0 ≤ x16_1
    ·
     rw [if_pos c9] at H
     have c9b0 : decide (0 ≤ x16_1) = true := decide_eq_true c9
     clear c9
     by_cases c10 : x16_1 < (l0_0.length : Int)
     ·
      rw [if_pos c10] at H
      have c10b0 : decide (x16_1 < (l0_0.length : Int)) = true := decide_eq_true c10
      clear c10
      by_cases c11 : ((rd_T115 l0_0 x16_1).f0) = 1
      ·
       rw [if_pos c11] at H
       have c11b0 : (((rd_T115 l0_0 x16_1).f0) == 1) = true := beq_iff_eq.mpr c11
       have c11b1 : (((rd_T115 l0_0 x16_1).f0) != 1) = false := bne_eq_false_iff_eq.mpr c11
       clear c11
       by_cases c12 : 0 < (x2_1.length : Int)
       ·
        rw [if_pos c12] at H
        have c12b0 : decide (0 < (x2_1.length : Int)) = true := decide_eq_true c12
        have c12b1 : decide (0 < x2_1.length) = true := decide_eq_true (by omega)
        clear c12
        by_cases c13 : 1 ≤ (x2_1.length : Int)
        ·
         rw [if_pos c13] at H
         have c13b0 := eq_true c13
         have c13b1 : decide (1 ≤ (x2_1.length : Int)) = true := decide_eq_true c13
         clear c13
         obtain ⟨y108, hy108⟩ : ∃ y_ : List Int, y_ = (x2_1.drop 1) := ⟨_, rfl⟩
         replace H : (if x8_1.length < 17592186044416 then (impl_Circuit_run.l0 k1 x1_1 y108 (x8_1 ++ [rd x2_1 0]) l0_0 (l0_0.length : Int) (wrap64 (x16_1 + 1))) else (none)) = some (r1, r2) := by first | (rw [hy108]; with_reducible exact H) | (have H2_ := (Option.bind_some _ _).symm.trans H; rw [hy108]; with_reducible exact H2_) | (have H2_ := (Option.bind_some _ _).symm.trans H; with_reducible exact H2_) | with_reducible exact H | (rw [hy108]; exact H) | exact H
         have Ny108 := am_ hy108
         clear hy108
         by_cases c14 : x8_1.length < 17592186044416
         ·
          rw [if_pos c14] at H
          have LMc14 := am_ c14
          clear c14
          obtain ⟨y113, hy113⟩ : ∃ y_ : List Int, y_ = (x8_1 ++ [rd x2_1 0]) := ⟨_, rfl⟩
          replace H : (impl_Circuit_run.l0 k1 x1_1 y108 y113 l0_0 (l0_0.length : Int) (wrap64 (x16_1 + 1))) = some (r1, r2) := by first | (rw [hy113]; with_reducible exact H) | (have H2_ := (Option.bind_some _ _).symm.trans H; rw [hy113]; with_reducible exact H2_) | (have H2_ := (Option.bind_some _ _).symm.trans H; with_reducible exact H2_) | with_reducible exact H | (rw [hy113]; exact H) | exact H
          have Ny113 := am_ hy113
          clear hy113
          have H' := am_ H
          clear H
          have p105 : 0 ≤ (x16_1 : Int) := of_decide_eq_true qz0_
          have q105 : x16_1 < (l0_0.length : Int) := of_decide_eq_true qz0_
          obtain ⟨ad105, e105, hx105_0, hx105_1, hx105_2, hx105_3⟩ := at_T115 HR0_0.out x16_1 p105 q105
          cases e105
          replace hx105_0 := (HB.out.cell (World.block_lt_of_cell? w _ hx105_0)).trans hx105_0
          replace hx105_1 := (HB.out.cell (World.block_lt_of_cell? w _ hx105_1)).trans hx105_1
          replace hx105_2 := (HB.out.cell (World.block_lt_of_cell? w _ hx105_2)).trans hx105_2
          replace hx105_3 := (HB.out.cell (World.block_lt_of_cell? w _ hx105_3)).trans hx105_3
          replace p105 := eq_true p105
          replace q105 := eq_true q105
          go_wp2_with (first | ((with_reducible refine gate_dst (N := 10) rfl ?_); refine box_event ?hg (N := 10) ?hd (cs := #[.int .i64 0, .int .i64 0, .int .i64 0, .int .i64 0]) (t := 115) ?hr ?_; (case hd => rfl); (case hg => rfl); (case hr => first | (go_simp; done) | (go_simp; rfl)); intro gb106 hg w15 hbox hb; have n0_ := am_ (Kd.V_below (Kd.V_elderB qz59_ gb106 (Nat.le_of_eq hg.symm)) hb); have n1_ := am_ (Kd.V_below (Kd.V_elderB qz60_ gb106 (Nat.le_of_eq hg.symm)) hb); have n2_ := am_ (Kd.R_below qz61_ hb); have n3_ := am_ (blk_below (g := gb101) (o := .cells #[.slice (some ad105) l0_0.length c0_0] 63 (0, 0)) qz11_ hb); have n4_ := am_ (below_step qz10_ hb); have n5_ := am_ (hbox); have n6_ := am_ ((by rw [hg]; exact (below_size qz10_) : w.heap.size ≤ gb106)); have n7_ := am_ ((by rw [hg]; exact (below_size qz10_) : w.heap.size ≤ gb106)); have n8_ := am_ ((by rw [hg]; exact Nat.ne_of_lt (blk_lt (g := gb101) (o := .cells #[.slice (some ad105) l0_0.length c0_0] 63 (0, 0)) qz11_) : gb101 ≠ gb106)); have n9_ := am_ ((by rw [hg]; exact Nat.ne_of_gt (blk_lt (g := gb101) (o := .cells #[.slice (some ad105) l0_0.length c0_0] 63 (0, 0)) qz11_) : gb106 ≠ gb101)); clear HO_1; clear HO_2; clear HO_8; clear BK101; clear HB; have HO_1 := n0_; have HO_2 := n1_; have HO_8 := n2_; have BK101 := n3_; have HB := n4_; have BK106 := n5_; have GW106 := n6_; have GE106 := n7_; have NB101_106 := n8_; have NB106_101 := n9_; clear n0_ n1_ n2_ n3_ n4_ n5_ n6_ n7_ n8_ n9_; clear hb hbox hg; have hnb16 := NB106_101.out; have hnc16 := NB101_106.out; have hcz17_0 : w15.cell? ⟨gb106, 0, none⟩ = some (.int .i64 0) := (blk_cell BK106.out 0).trans rfl; have hcz17_1 : w15.cell? ⟨gb106, 1, none⟩ = some (.int .i64 0) := (blk_cell BK106.out 1).trans rfl; have hcz17_2 : w15.cell? ⟨gb106, 2, none⟩ = some (.int .i64 0) := (blk_cell BK106.out 2).trans rfl; have hcz17_3 : w15.cell? ⟨gb106, 3, none⟩ = some (.int .i64 0) := (blk_cell BK106.out 3).trans rfl; have hfz17_0 := blk_frozen BK106.out 0; have hfz17_1 := blk_frozen BK106.out 1; have hfz17_2 := blk_frozen BK106.out 2; have hfz17_3 := blk_frozen BK106.out 3) | ((with_reducible refine gate_store (t := 115) (p := 10) rfl ?_); (try (rw [drewN_self w15]; generalize hq_ : World.drewN w15 _ = w15; have n0_ := am_ (Kd.V_at hq_ HO_1.out); have n1_ := am_ (Kd.V_at hq_ HO_2.out); have n2_ := am_ (Kd.R_at hq_ HO_8.out); have n3_ := am_ (blk_at hq_ BK101.out); have n4_ := am_ (blk_at hq_ BK106.out); have n5_ := am_ (below_at hq_ HB.out); clear hq_ HO_1 HO_2 HO_8 BK101 BK106 HB; have HO_1 := n0_; have HO_2 := n1_; have HO_8 := n2_; have BK101 := n3_; have BK106 := n4_; have HB := n5_; clear n0_ n1_ n2_ n3_ n4_ n5_)); refine store_event (t := 115) (p := 10) (v := ?vo_w18) (w1 := ((((w15.setCell ⟨gb106, 0, none⟩ (.int .i64 ((rd_T115 l0_0 x16_1).f0))).setCell ⟨gb106, 1, none⟩ (.int .i64 ((rd_T115 l0_0 x16_1).f1))).setCell ⟨gb106, 2, none⟩ (.int .i64 ((rd_T115 l0_0 x16_1).f2))).setCell ⟨gb106, 3, none⟩ (.int .i64 ((rd_T115 l0_0 x16_1).f3)))) ?hg ?ho ?hn ?hr ?_; (case ho => rfl); (case hg => rfl); (case hn => rfl); (case hr => first | (go_simp; done) | (go_simp; rfl)); intro w18 hw; have n0_ : Aside0 (Kd.V (Kd.int .i64) 3 w18 w.heap.size (fun k_ => ((P1_ k_ ∨ P2_ k_) ∨ w.heap.size ≤ k_) ∧ some k_ ≠ (u8 : Value).ownBlock ∧ k_ ≠ gb101 ∧ k_ ≠ gb106) u1 x1_1) := ⟨(by rw [hw]; exact qz62_)⟩; have n1_ : Aside0 (Kd.V (Kd.int .i64) 3 w18 w.heap.size (fun k_ => ((P1_ k_ ∨ P2_ k_) ∨ w.heap.size ≤ k_) ∧ some k_ ≠ (u8 : Value).ownBlock ∧ k_ ≠ gb101 ∧ k_ ≠ gb106) u2 x2_1) := ⟨(by rw [hw]; exact qz63_)⟩; have n2_ : Aside0 (Kd.R (Kd.int .i64) 3 w18 w.heap.size (fun k_ => (w.heap.size ≤ k_)) u8 x8_1) := ⟨(by rw [hw]; exact (by (with_reducible repeat (first | apply Kd.R_alloc | apply Kd.R_drewN | apply Kd.R_drew)); exact Kd.R_mono (Kd.R_far (p := ⟨gb106, 3, none⟩) (Kd.R_far (p := ⟨gb106, 2, none⟩) (Kd.R_far (p := ⟨gb106, 1, none⟩) (Kd.R_far (p := ⟨gb106, 0, none⟩) (Kd.R_types HO_8.out BK106.out (by decide)) (fun _ hk => hk.2) (.int .i64 ((rd_T115 l0_0 x16_1).f0))) (fun _ hk => hk.2) (.int .i64 ((rd_T115 l0_0 x16_1).f1))) (fun _ hk => hk.2) (.int .i64 ((rd_T115 l0_0 x16_1).f2))) (fun _ hk => hk.2) (.int .i64 ((rd_T115 l0_0 x16_1).f3))) (fun _ hk => hk.1)))⟩; have n3_ : Aside0 (w18.heap[gb101]? = some (.cells #[.slice (some ad105) l0_0.length c0_0] 63 (0, 0))) := ⟨(by rw [hw]; exact qz24_)⟩; have n4_ : Aside0 (w18.heap[gb106]? = some (.cells #[.int .i64 ((rd_T115 l0_0 x16_1).f0), .int .i64 ((rd_T115 l0_0 x16_1).f1), .int .i64 ((rd_T115 l0_0 x16_1).f2), .int .i64 ((rd_T115 l0_0 x16_1).f3)] 115 (0, 0))) := ⟨(by rw [hw]; exact qz64_)⟩; have n5_ : Aside0 (Below w.heap.size w w18) := ⟨(by rw [hw]; exact qz23_)⟩; clear hw; clear HO_1; clear HO_2; clear HO_8; clear BK101; clear BK106; clear HB; have HO_1 := n0_; have HO_2 := n1_; have HO_8 := n2_; have BK101 := n3_; have BK106 := n4_; have HB := n5_; clear n0_ n1_ n2_ n3_ n4_ n5_; have hcz19_0 : w18.cell? ⟨gb106, 0, none⟩ = some (.int .i64 ((rd_T115 l0_0 x16_1).f0)) := (blk_cell BK106.out 0).trans rfl; have hcz19_1 : w18.cell? ⟨gb106, 1, none⟩ = some (.int .i64 ((rd_T115 l0_0 x16_1).f1)) := (blk_cell BK106.out 1).trans rfl; have hcz19_2 : w18.cell? ⟨gb106, 2, none⟩ = some (.int .i64 ((rd_T115 l0_0 x16_1).f2)) := (blk_cell BK106.out 2).trans rfl; have hcz19_3 : w18.cell? ⟨gb106, 3, none⟩ = some (.int .i64 ((rd_T115 l0_0 x16_1).f3)) := (blk_cell BK106.out 3).trans rfl; have hfz19_0 := blk_frozen BK106.out 0; have hfz19_1 := blk_frozen BK106.out 1; have hfz19_2 := blk_frozen BK106.out 2; have hfz19_3 := blk_frozen BK106.out 3; obtain ⟨Ao20, co20, eo20⟩ := Kd.V_slice HO_2.out; subst eo20; have p107 : 0 ≤ (0 : Int) := (by omega); have q107 : 0 < (x2_1.length : Int) := of_decide_eq_true qz0_; obtain ⟨ad107, e107, hx107_0⟩ := Kd.at_int (Kd.V_reads' HO_2.out).2.2 0 p107 q107; cases e107; have qi107 : (0 < x2_1.length) = True := eq_true (by omega); (try rw [show ((0 : Int)).toNat = 0 from rfl] at hx107_0); (try rw [Addr.add_zero'] at hx107_0); replace p107 := eq_true p107; replace q107 := eq_true q107; have q21 : (1 : Int) ≤ ((x2_1.length : Int) : Int) := of_decide_eq_true qz0_; obtain ⟨i021, hi021, _, hsz21, _⟩ := info_parts info3; have hroom21 : x2_1.length ≤ co20 := (Kd.V_reads' HO_2.out).2.1; have hC21 : Kd.F (Kd.int .i64) _ _ (some ad107) x2_1.length x2_1 := (Kd.V_at (base := w.heap.size) HO_2.out).2.2; have hcut21 := cut_from (P := Try.prog) 33 3 .i64 Try.underlying33 hi021 1 hsz21 (some ad107) x2_1.length co20 1 (by omega) q21; have hr21 := Kd.F_cut (m := (1 : Int).toNat) (c := co20) hC21 (by omega) hroom21; obtain ⟨A21, hA21⟩ : ∃ A1, A1 = (if co20 = (1 : Int).toNat then (some ad107) else ((some ad107) : Option Addr).map (·.add ((1 : Int).toNat * 1))) := ⟨_, rfl⟩; obtain ⟨c21, hc21⟩ : ∃ c1, c1 = co20 - (1 : Int).toNat := ⟨_, rfl⟩; have hy21 : y108.length = x2_1.length - (1 : Int).toNat := (by rw [Ny108.out, List.length_drop] <;> omega); rw [show (x2_1).drop (1 : Int).toNat = y108 from Ny108.out.symm] at hr21; replace hr21 : Kd.F (Kd.int .i64) _ _ A21 y108.length y108 := (by rw [hA21]; exact hr21); rw [← hy21, ← hA21, ← hc21] at hcut21; have HO112 := am_ (show Kd.V (Kd.int .i64) 3 _ w.heap.size _ (.slice A21 y108.length c21) y108 from Kd.V_mk (by rw [hy21, hc21]; exact Nat.sub_le_sub_right hroom21 _) hr21); have HC112 := am_ (show y108.length ≤ c21 from by rw [hy21, hc21]; exact Nat.sub_le_sub_right hroom21 _); clear hr21 hC21 hroom21 hi021 hsz21 hc21; have KY21 := am_ hy21; have KA21 := am_ hA21; clear hy21 hA21; replace q21 := eq_true q21) | ((with_reducible refine gate_builtin (b := .append) (xs := #[.tmp 106, .tmp 108]) rfl ?_); at_builtin; refine Kd.R_append (Kd.int .i64) (w0 := w) w.heap.size rfl (.tmp 106) (.tmp 108) 33 3 (.int .i64 0) 8 rfl Try.underlying33 info3 rfl (by decide) (by omega) u8 x8_1 (rd x2_1 0) [.int .i64 (rd x2_1 0)] (fun k_ => (w.heap.size ≤ k_)) (fun _ => False) rfl rfl ?aP (fun _ hk => hk.elim) ?aF ?aO ?aB ?aS ?aL ?_; (case aP => exact rfl); (case aB => exact qz23_); (case aF => exact (fun k_ hk => (Nat.le_trans (below_size qz23_) hk))); (case aO => exact qz61_); (case aS => exact (below_size qz23_)); (case aL => have := LMc14.out; omega); intro v114 w22 ho hb hg hat; rw [← Ny113.out] at ho; have n0_ := am_ (Kd.V_afterv (ok := (fun k_ => ((P1_ k_ ∨ P2_ k_) ∨ w.heap.size ≤ k_) ∧ k_ ≠ gb101 ∧ k_ ≠ gb106)) qz65_ hg hat); have n1_ := am_ (Kd.V_afterv (ok := (fun k_ => ((P1_ k_ ∨ P2_ k_) ∨ w.heap.size ≤ k_) ∧ k_ ≠ gb101 ∧ k_ ≠ gb106)) qz66_ hg hat); have n2_ := am_ (blk_grown (g := gb101) (o := .cells #[.slice (some ad105) l0_0.length c0_0] 63 (0, 0)) qz11_ hg (Kd.R_ne HO_8.out BK101.out (by decide))); have n3_ := am_ (blk_grown (g := gb106) (o := .cells #[.int .i64 ((rd_T115 l0_0 x16_1).f0), .int .i64 ((rd_T115 l0_0 x16_1).f1), .int .i64 ((rd_T115 l0_0 x16_1).f2), .int .i64 ((rd_T115 l0_0 x16_1).f3)] 115 (0, 0)) qz67_ hg (Kd.R_ne HO_8.out BK106.out (by decide))); have n4_ := am_ (Kd.V_afterv (ok := (fun k_ => ((P1_ k_ ∨ P2_ k_) ∨ w.heap.size ≤ k_) ∧ k_ ≠ gb101 ∧ k_ ≠ gb106)) (by (with_reducible repeat (first | apply Kd.V_alloc | apply Kd.V_drewN | apply Kd.V_drew)); exact Kd.V_mono HO112.out (fun _ hk => ⟨⟨hk.1, ⟨hk.2.2.1, hk.2.2.2⟩⟩, hk.2.1⟩)) hg hat); have n5_ := am_ (hb); have n6_ := am_ (ho); clear HO_1; clear HO_2; clear BK101; clear BK106; clear HO112; clear HB; clear HO_8; have HO_1 := n0_; have HO_2 := n1_; have BK101 := n2_; have BK106 := n3_; have HO112 := n4_; have HB := n5_; have HO115 := n6_; clear n0_ n1_ n2_ n3_ n4_ n5_ n6_; clear ho hb hg hat))
          repeat (go_quiet (fail); try go_wp2_with (first | ((with_reducible refine gate_dst (N := 10) rfl ?_); refine box_event ?hg (N := 10) ?hd (cs := #[.int .i64 0, .int .i64 0, .int .i64 0, .int .i64 0]) (t := 115) ?hr ?_; (case hd => rfl); (case hg => rfl); (case hr => first | (go_simp; done) | (go_simp; rfl)); intro gb106 hg w15 hbox hb; have n0_ := am_ (Kd.V_below (Kd.V_elderB qz59_ gb106 (Nat.le_of_eq hg.symm)) hb); have n1_ := am_ (Kd.V_below (Kd.V_elderB qz60_ gb106 (Nat.le_of_eq hg.symm)) hb); have n2_ := am_ (Kd.R_below qz61_ hb); have n3_ := am_ (blk_below (g := gb101) (o := .cells #[.slice (some ad105) l0_0.length c0_0] 63 (0, 0)) qz11_ hb); have n4_ := am_ (below_step qz10_ hb); have n5_ := am_ (hbox); have n6_ := am_ ((by rw [hg]; exact (below_size qz10_) : w.heap.size ≤ gb106)); have n7_ := am_ ((by rw [hg]; exact (below_size qz10_) : w.heap.size ≤ gb106)); have n8_ := am_ ((by rw [hg]; exact Nat.ne_of_lt (blk_lt (g := gb101) (o := .cells #[.slice (some ad105) l0_0.length c0_0] 63 (0, 0)) qz11_) : gb101 ≠ gb106)); have n9_ := am_ ((by rw [hg]; exact Nat.ne_of_gt (blk_lt (g := gb101) (o := .cells #[.slice (some ad105) l0_0.length c0_0] 63 (0, 0)) qz11_) : gb106 ≠ gb101)); clear HO_1; clear HO_2; clear HO_8; clear BK101; clear HB; have HO_1 := n0_; have HO_2 := n1_; have HO_8 := n2_; have BK101 := n3_; have HB := n4_; have BK106 := n5_; have GW106 := n6_; have GE106 := n7_; have NB101_106 := n8_; have NB106_101 := n9_; clear n0_ n1_ n2_ n3_ n4_ n5_ n6_ n7_ n8_ n9_; clear hb hbox hg; have hnb16 := NB106_101.out; have hnc16 := NB101_106.out; have hcz17_0 : w15.cell? ⟨gb106, 0, none⟩ = some (.int .i64 0) := (blk_cell BK106.out 0).trans rfl; have hcz17_1 : w15.cell? ⟨gb106, 1, none⟩ = some (.int .i64 0) := (blk_cell BK106.out 1).trans rfl; have hcz17_2 : w15.cell? ⟨gb106, 2, none⟩ = some (.int .i64 0) := (blk_cell BK106.out 2).trans rfl; have hcz17_3 : w15.cell? ⟨gb106, 3, none⟩ = some (.int .i64 0) := (blk_cell BK106.out 3).trans rfl; have hfz17_0 := blk_frozen BK106.out 0; have hfz17_1 := blk_frozen BK106.out 1; have hfz17_2 := blk_frozen BK106.out 2; have hfz17_3 := blk_frozen BK106.out 3) | ((with_reducible refine gate_store (t := 115) (p := 10) rfl ?_); (try (rw [drewN_self w15]; generalize hq_ : World.drewN w15 _ = w15; have n0_ := am_ (Kd.V_at hq_ HO_1.out); have n1_ := am_ (Kd.V_at hq_ HO_2.out); have n2_ := am_ (Kd.R_at hq_ HO_8.out); have n3_ := am_ (blk_at hq_ BK101.out); have n4_ := am_ (blk_at hq_ BK106.out); have n5_ := am_ (below_at hq_ HB.out); clear hq_ HO_1 HO_2 HO_8 BK101 BK106 HB; have HO_1 := n0_; have HO_2 := n1_; have HO_8 := n2_; have BK101 := n3_; have BK106 := n4_; have HB := n5_; clear n0_ n1_ n2_ n3_ n4_ n5_)); refine store_event (t := 115) (p := 10) (v := ?vo_w18) (w1 := ((((w15.setCell ⟨gb106, 0, none⟩ (.int .i64 ((rd_T115 l0_0 x16_1).f0))).setCell ⟨gb106, 1, none⟩ (.int .i64 ((rd_T115 l0_0 x16_1).f1))).setCell ⟨gb106, 2, none⟩ (.int .i64 ((rd_T115 l0_0 x16_1).f2))).setCell ⟨gb106, 3, none⟩ (.int .i64 ((rd_T115 l0_0 x16_1).f3)))) ?hg ?ho ?hn ?hr ?_; (case ho => rfl); (case hg => rfl); (case hn => rfl); (case hr => first | (go_simp; done) | (go_simp; rfl)); intro w18 hw; have n0_ : Aside0 (Kd.V (Kd.int .i64) 3 w18 w.heap.size (fun k_ => ((P1_ k_ ∨ P2_ k_) ∨ w.heap.size ≤ k_) ∧ some k_ ≠ (u8 : Value).ownBlock ∧ k_ ≠ gb101 ∧ k_ ≠ gb106) u1 x1_1) := ⟨(by rw [hw]; exact qz62_)⟩; have n1_ : Aside0 (Kd.V (Kd.int .i64) 3 w18 w.heap.size (fun k_ => ((P1_ k_ ∨ P2_ k_) ∨ w.heap.size ≤ k_) ∧ some k_ ≠ (u8 : Value).ownBlock ∧ k_ ≠ gb101 ∧ k_ ≠ gb106) u2 x2_1) := ⟨(by rw [hw]; exact qz63_)⟩; have n2_ : Aside0 (Kd.R (Kd.int .i64) 3 w18 w.heap.size (fun k_ => (w.heap.size ≤ k_)) u8 x8_1) := ⟨(by rw [hw]; exact (by (with_reducible repeat (first | apply Kd.R_alloc | apply Kd.R_drewN | apply Kd.R_drew)); exact Kd.R_mono (Kd.R_far (p := ⟨gb106, 3, none⟩) (Kd.R_far (p := ⟨gb106, 2, none⟩) (Kd.R_far (p := ⟨gb106, 1, none⟩) (Kd.R_far (p := ⟨gb106, 0, none⟩) (Kd.R_types HO_8.out BK106.out (by decide)) (fun _ hk => hk.2) (.int .i64 ((rd_T115 l0_0 x16_1).f0))) (fun _ hk => hk.2) (.int .i64 ((rd_T115 l0_0 x16_1).f1))) (fun _ hk => hk.2) (.int .i64 ((rd_T115 l0_0 x16_1).f2))) (fun _ hk => hk.2) (.int .i64 ((rd_T115 l0_0 x16_1).f3))) (fun _ hk => hk.1)))⟩; have n3_ : Aside0 (w18.heap[gb101]? = some (.cells #[.slice (some ad105) l0_0.length c0_0] 63 (0, 0))) := ⟨(by rw [hw]; exact qz24_)⟩; have n4_ : Aside0 (w18.heap[gb106]? = some (.cells #[.int .i64 ((rd_T115 l0_0 x16_1).f0), .int .i64 ((rd_T115 l0_0 x16_1).f1), .int .i64 ((rd_T115 l0_0 x16_1).f2), .int .i64 ((rd_T115 l0_0 x16_1).f3)] 115 (0, 0))) := ⟨(by rw [hw]; exact qz64_)⟩; have n5_ : Aside0 (Below w.heap.size w w18) := ⟨(by rw [hw]; exact qz23_)⟩; clear hw; clear HO_1; clear HO_2; clear HO_8; clear BK101; clear BK106; clear HB; have HO_1 := n0_; have HO_2 := n1_; have HO_8 := n2_; have BK101 := n3_; have BK106 := n4_; have HB := n5_; clear n0_ n1_ n2_ n3_ n4_ n5_; have hcz19_0 : w18.cell? ⟨gb106, 0, none⟩ = some (.int .i64 ((rd_T115 l0_0 x16_1).f0)) := (blk_cell BK106.out 0).trans rfl; have hcz19_1 : w18.cell? ⟨gb106, 1, none⟩ = some (.int .i64 ((rd_T115 l0_0 x16_1).f1)) := (blk_cell BK106.out 1).trans rfl; have hcz19_2 : w18.cell? ⟨gb106, 2, none⟩ = some (.int .i64 ((rd_T115 l0_0 x16_1).f2)) := (blk_cell BK106.out 2).trans rfl; have hcz19_3 : w18.cell? ⟨gb106, 3, none⟩ = some (.int .i64 ((rd_T115 l0_0 x16_1).f3)) := (blk_cell BK106.out 3).trans rfl; have hfz19_0 := blk_frozen BK106.out 0; have hfz19_1 := blk_frozen BK106.out 1; have hfz19_2 := blk_frozen BK106.out 2; have hfz19_3 := blk_frozen BK106.out 3; obtain ⟨Ao20, co20, eo20⟩ := Kd.V_slice HO_2.out; subst eo20; have p107 : 0 ≤ (0 : Int) := (by omega); have q107 : 0 < (x2_1.length : Int) := of_decide_eq_true qz0_; obtain ⟨ad107, e107, hx107_0⟩ := Kd.at_int (Kd.V_reads' HO_2.out).2.2 0 p107 q107; cases e107; have qi107 : (0 < x2_1.length) = True := eq_true (by omega); (try rw [show ((0 : Int)).toNat = 0 from rfl] at hx107_0); (try rw [Addr.add_zero'] at hx107_0); replace p107 := eq_true p107; replace q107 := eq_true q107; have q21 : (1 : Int) ≤ ((x2_1.length : Int) : Int) := of_decide_eq_true qz0_; obtain ⟨i021, hi021, _, hsz21, _⟩ := info_parts info3; have hroom21 : x2_1.length ≤ co20 := (Kd.V_reads' HO_2.out).2.1; have hC21 : Kd.F (Kd.int .i64) _ _ (some ad107) x2_1.length x2_1 := (Kd.V_at (base := w.heap.size) HO_2.out).2.2; have hcut21 := cut_from (P := Try.prog) 33 3 .i64 Try.underlying33 hi021 1 hsz21 (some ad107) x2_1.length co20 1 (by omega) q21; have hr21 := Kd.F_cut (m := (1 : Int).toNat) (c := co20) hC21 (by omega) hroom21; obtain ⟨A21, hA21⟩ : ∃ A1, A1 = (if co20 = (1 : Int).toNat then (some ad107) else ((some ad107) : Option Addr).map (·.add ((1 : Int).toNat * 1))) := ⟨_, rfl⟩; obtain ⟨c21, hc21⟩ : ∃ c1, c1 = co20 - (1 : Int).toNat := ⟨_, rfl⟩; have hy21 : y108.length = x2_1.length - (1 : Int).toNat := (by rw [Ny108.out, List.length_drop] <;> omega); rw [show (x2_1).drop (1 : Int).toNat = y108 from Ny108.out.symm] at hr21; replace hr21 : Kd.F (Kd.int .i64) _ _ A21 y108.length y108 := (by rw [hA21]; exact hr21); rw [← hy21, ← hA21, ← hc21] at hcut21; have HO112 := am_ (show Kd.V (Kd.int .i64) 3 _ w.heap.size _ (.slice A21 y108.length c21) y108 from Kd.V_mk (by rw [hy21, hc21]; exact Nat.sub_le_sub_right hroom21 _) hr21); have HC112 := am_ (show y108.length ≤ c21 from by rw [hy21, hc21]; exact Nat.sub_le_sub_right hroom21 _); clear hr21 hC21 hroom21 hi021 hsz21 hc21; have KY21 := am_ hy21; have KA21 := am_ hA21; clear hy21 hA21; replace q21 := eq_true q21) | ((with_reducible refine gate_builtin (b := .append) (xs := #[.tmp 106, .tmp 108]) rfl ?_); at_builtin; refine Kd.R_append (Kd.int .i64) (w0 := w) w.heap.size rfl (.tmp 106) (.tmp 108) 33 3 (.int .i64 0) 8 rfl Try.underlying33 info3 rfl (by decide) (by omega) u8 x8_1 (rd x2_1 0) [.int .i64 (rd x2_1 0)] (fun k_ => (w.heap.size ≤ k_)) (fun _ => False) rfl rfl ?aP (fun _ hk => hk.elim) ?aF ?aO ?aB ?aS ?aL ?_; (case aP => exact rfl); (case aB => exact qz23_); (case aF => exact (fun k_ hk => (Nat.le_trans (below_size qz23_) hk))); (case aO => exact qz61_); (case aS => exact (below_size qz23_)); (case aL => have := LMc14.out; omega); intro v114 w22 ho hb hg hat; rw [← Ny113.out] at ho; have n0_ := am_ (Kd.V_afterv (ok := (fun k_ => ((P1_ k_ ∨ P2_ k_) ∨ w.heap.size ≤ k_) ∧ k_ ≠ gb101 ∧ k_ ≠ gb106)) qz65_ hg hat); have n1_ := am_ (Kd.V_afterv (ok := (fun k_ => ((P1_ k_ ∨ P2_ k_) ∨ w.heap.size ≤ k_) ∧ k_ ≠ gb101 ∧ k_ ≠ gb106)) qz66_ hg hat); have n2_ := am_ (blk_grown (g := gb101) (o := .cells #[.slice (some ad105) l0_0.length c0_0] 63 (0, 0)) qz11_ hg (Kd.R_ne HO_8.out BK101.out (by decide))); have n3_ := am_ (blk_grown (g := gb106) (o := .cells #[.int .i64 ((rd_T115 l0_0 x16_1).f0), .int .i64 ((rd_T115 l0_0 x16_1).f1), .int .i64 ((rd_T115 l0_0 x16_1).f2), .int .i64 ((rd_T115 l0_0 x16_1).f3)] 115 (0, 0)) qz67_ hg (Kd.R_ne HO_8.out BK106.out (by decide))); have n4_ := am_ (Kd.V_afterv (ok := (fun k_ => ((P1_ k_ ∨ P2_ k_) ∨ w.heap.size ≤ k_) ∧ k_ ≠ gb101 ∧ k_ ≠ gb106)) (by (with_reducible repeat (first | apply Kd.V_alloc | apply Kd.V_drewN | apply Kd.V_drew)); exact Kd.V_mono HO112.out (fun _ hk => ⟨⟨hk.1, ⟨hk.2.2.1, hk.2.2.2⟩⟩, hk.2.1⟩)) hg hat); have n5_ := am_ (hb); have n6_ := am_ (ho); clear HO_1; clear HO_2; clear BK101; clear BK106; clear HO112; clear HB; clear HO_8; have HO_1 := n0_; have HO_2 := n1_; have BK101 := n2_; have BK106 := n3_; have HO112 := n4_; have HB := n5_; have HO115 := n6_; clear n0_ n1_ n2_ n3_ n4_ n5_ n6_; clear ho hb hg hat)))
          go_roundg k1
          case measure => have := HK1.out; omega
          case rel => exact ⟨(x1_1), (y108), (y113), (wrap64 (x16_1 + 1)), qz2_, H', ⟨qz3_⟩, ⟨by (with_reducible repeat (first | apply Kd.V_alloc | apply Kd.V_drewN | apply Kd.V_drew)); exact Kd.V_mono HO_1.out (fun _ hk => ⟨hk.1.1, ⟨hk.2, hk.1.2.1⟩⟩)⟩, ⟨by (with_reducible repeat (first | apply Kd.V_alloc | apply Kd.V_drewN | apply Kd.V_drew)); exact Kd.V_mono HO112.out (fun _ hk => ⟨hk.1.1, ⟨hk.2, hk.1.2.1⟩⟩)⟩, ⟨(by (with_reducible repeat (first | apply Kd.R_alloc | apply Kd.R_drewN | apply Kd.R_drew)); exact HO115.out)⟩, ⟨qz11_⟩, ⟨qz23_⟩⟩
         ·
          rw [if_neg c14] at H
          exact absurd H (by simp)
        ·
         rw [if_neg c13] at H
         exact absurd H (by simp)
       ·
        rw [if_neg c12] at H
        exact absurd H (by simp)
      ·
       rw [if_neg c11] at H
       have c11b0 : (((rd_T115 l0_0 x16_1).f0) == 1) = false := beq_eq_false_iff_ne.mpr c11
       have c11b1 : (((rd_T115 l0_0 x16_1).f0) != 1) = true := bne_iff_ne.mpr c11
       by_cases c23 : ((rd_T115 l0_0 x16_1).f0) = 2
       ·
        rw [if_pos c23] at H
        have c23b0 : (((rd_T115 l0_0 x16_1).f0) == 2) = true := beq_iff_eq.mpr c23
        have c23b1 : (((rd_T115 l0_0 x16_1).f0) != 2) = false := bne_eq_false_iff_eq.mpr c23
        clear c23
        by_cases c24 : 0 < (x1_1.length : Int)
        ·
         rw [if_pos c24] at H
         have c24b0 : decide (0 < (x1_1.length : Int)) = true := decide_eq_true c24
         have c24b1 : decide (0 < x1_1.length) = true := decide_eq_true (by omega)
         clear c24
         by_cases c25 : 1 ≤ (x1_1.length : Int)
         ·
          rw [if_pos c25] at H
          have c25b0 := eq_true c25
          have c25b1 : decide (1 ≤ (x1_1.length : Int)) = true := decide_eq_true c25
          clear c25
          obtain ⟨y117, hy117⟩ : ∃ y_ : List Int, y_ = (x1_1.drop 1) := ⟨_, rfl⟩
          replace H : (if x8_1.length < 17592186044416 then (impl_Circuit_run.l0 k1 y117 x2_1 (x8_1 ++ [rd x1_1 0]) l0_0 (l0_0.length : Int) (wrap64 (x16_1 + 1))) else (none)) = some (r1, r2) := by first | (rw [hy117]; with_reducible exact H) | (have H2_ := (Option.bind_some _ _).symm.trans H; rw [hy117]; with_reducible exact H2_) | (have H2_ := (Option.bind_some _ _).symm.trans H; with_reducible exact H2_) | with_reducible exact H | (rw [hy117]; exact H) | exact H
          have Ny117 := am_ hy117
          clear hy117
          by_cases c26 : x8_1.length < 17592186044416
          ·
           rw [if_pos c26] at H
           have LMc26 := am_ c26
           clear c26
           obtain ⟨y122, hy122⟩ : ∃ y_ : List Int, y_ = (x8_1 ++ [rd x1_1 0]) := ⟨_, rfl⟩
           replace H : (impl_Circuit_run.l0 k1 y117 x2_1 y122 l0_0 (l0_0.length : Int) (wrap64 (x16_1 + 1))) = some (r1, r2) := by first | (rw [hy122]; with_reducible exact H) | (have H2_ := (Option.bind_some _ _).symm.trans H; rw [hy122]; with_reducible exact H2_) | (have H2_ := (Option.bind_some _ _).symm.trans H; with_reducible exact H2_) | with_reducible exact H | (rw [hy122]; exact H) | exact H
           have Ny122 := am_ hy122
           clear hy122
           have H' := am_ H
           clear H
           have p105 : 0 ≤ (x16_1 : Int) := of_decide_eq_true qz0_
           have q105 : x16_1 < (l0_0.length : Int) := of_decide_eq_true qz0_
           obtain ⟨ad105, e105, hx105_0, hx105_1, hx105_2, hx105_3⟩ := at_T115 HR0_0.out x16_1 p105 q105
           cases e105
           replace hx105_0 := (HB.out.cell (World.block_lt_of_cell? w _ hx105_0)).trans hx105_0
           replace hx105_1 := (HB.out.cell (World.block_lt_of_cell? w _ hx105_1)).trans hx105_1
           replace hx105_2 := (HB.out.cell (World.block_lt_of_cell? w _ hx105_2)).trans hx105_2
           replace hx105_3 := (HB.out.cell (World.block_lt_of_cell? w _ hx105_3)).trans hx105_3
           replace p105 := eq_true p105
           replace q105 := eq_true q105
           go_wp2_with (first | ((with_reducible refine gate_dst (N := 10) rfl ?_); refine box_event ?hg (N := 10) ?hd (cs := #[.int .i64 0, .int .i64 0, .int .i64 0, .int .i64 0]) (t := 115) ?hr ?_; (case hd => rfl); (case hg => rfl); (case hr => first | (go_simp; done) | (go_simp; rfl)); intro gb106 hg w27 hbox hb; have n0_ := am_ (Kd.V_below (Kd.V_elderB qz59_ gb106 (Nat.le_of_eq hg.symm)) hb); have n1_ := am_ (Kd.V_below (Kd.V_elderB qz60_ gb106 (Nat.le_of_eq hg.symm)) hb); have n2_ := am_ (Kd.R_below qz61_ hb); have n3_ := am_ (blk_below (g := gb101) (o := .cells #[.slice (some ad105) l0_0.length c0_0] 63 (0, 0)) qz11_ hb); have n4_ := am_ (below_step qz10_ hb); have n5_ := am_ (hbox); have n6_ := am_ ((by rw [hg]; exact (below_size qz10_) : w.heap.size ≤ gb106)); have n7_ := am_ ((by rw [hg]; exact (below_size qz10_) : w.heap.size ≤ gb106)); have n8_ := am_ ((by rw [hg]; exact Nat.ne_of_lt (blk_lt (g := gb101) (o := .cells #[.slice (some ad105) l0_0.length c0_0] 63 (0, 0)) qz11_) : gb101 ≠ gb106)); have n9_ := am_ ((by rw [hg]; exact Nat.ne_of_gt (blk_lt (g := gb101) (o := .cells #[.slice (some ad105) l0_0.length c0_0] 63 (0, 0)) qz11_) : gb106 ≠ gb101)); clear HO_1; clear HO_2; clear HO_8; clear BK101; clear HB; have HO_1 := n0_; have HO_2 := n1_; have HO_8 := n2_; have BK101 := n3_; have HB := n4_; have BK106 := n5_; have GW106 := n6_; have GE106 := n7_; have NB101_106 := n8_; have NB106_101 := n9_; clear n0_ n1_ n2_ n3_ n4_ n5_ n6_ n7_ n8_ n9_; clear hb hbox hg; have hnb28 := NB106_101.out; have hnc28 := NB101_106.out; have hcz29_0 : w27.cell? ⟨gb106, 0, none⟩ = some (.int .i64 0) := (blk_cell BK106.out 0).trans rfl; have hcz29_1 : w27.cell? ⟨gb106, 1, none⟩ = some (.int .i64 0) := (blk_cell BK106.out 1).trans rfl; have hcz29_2 : w27.cell? ⟨gb106, 2, none⟩ = some (.int .i64 0) := (blk_cell BK106.out 2).trans rfl; have hcz29_3 : w27.cell? ⟨gb106, 3, none⟩ = some (.int .i64 0) := (blk_cell BK106.out 3).trans rfl; have hfz29_0 := blk_frozen BK106.out 0; have hfz29_1 := blk_frozen BK106.out 1; have hfz29_2 := blk_frozen BK106.out 2; have hfz29_3 := blk_frozen BK106.out 3) | ((with_reducible refine gate_store (t := 115) (p := 10) rfl ?_); (try (rw [drewN_self w27]; generalize hq_ : World.drewN w27 _ = w27; have n0_ := am_ (Kd.V_at hq_ HO_1.out); have n1_ := am_ (Kd.V_at hq_ HO_2.out); have n2_ := am_ (Kd.R_at hq_ HO_8.out); have n3_ := am_ (blk_at hq_ BK101.out); have n4_ := am_ (blk_at hq_ BK106.out); have n5_ := am_ (below_at hq_ HB.out); clear hq_ HO_1 HO_2 HO_8 BK101 BK106 HB; have HO_1 := n0_; have HO_2 := n1_; have HO_8 := n2_; have BK101 := n3_; have BK106 := n4_; have HB := n5_; clear n0_ n1_ n2_ n3_ n4_ n5_)); refine store_event (t := 115) (p := 10) (v := ?vo_w30) (w1 := ((((w27.setCell ⟨gb106, 0, none⟩ (.int .i64 ((rd_T115 l0_0 x16_1).f0))).setCell ⟨gb106, 1, none⟩ (.int .i64 ((rd_T115 l0_0 x16_1).f1))).setCell ⟨gb106, 2, none⟩ (.int .i64 ((rd_T115 l0_0 x16_1).f2))).setCell ⟨gb106, 3, none⟩ (.int .i64 ((rd_T115 l0_0 x16_1).f3)))) ?hg ?ho ?hn ?hr ?_; (case ho => rfl); (case hg => rfl); (case hn => rfl); (case hr => first | (go_simp; done) | (go_simp; rfl)); intro w30 hw; have n0_ : Aside0 (Kd.V (Kd.int .i64) 3 w30 w.heap.size (fun k_ => ((P1_ k_ ∨ P2_ k_) ∨ w.heap.size ≤ k_) ∧ some k_ ≠ (u8 : Value).ownBlock ∧ k_ ≠ gb101 ∧ k_ ≠ gb106) u1 x1_1) := ⟨(by rw [hw]; exact qz62_)⟩; have n1_ : Aside0 (Kd.V (Kd.int .i64) 3 w30 w.heap.size (fun k_ => ((P1_ k_ ∨ P2_ k_) ∨ w.heap.size ≤ k_) ∧ some k_ ≠ (u8 : Value).ownBlock ∧ k_ ≠ gb101 ∧ k_ ≠ gb106) u2 x2_1) := ⟨(by rw [hw]; exact qz63_)⟩; have n2_ : Aside0 (Kd.R (Kd.int .i64) 3 w30 w.heap.size (fun k_ => (w.heap.size ≤ k_)) u8 x8_1) := ⟨(by rw [hw]; exact (by (with_reducible repeat (first | apply Kd.R_alloc | apply Kd.R_drewN | apply Kd.R_drew)); exact Kd.R_mono (Kd.R_far (p := ⟨gb106, 3, none⟩) (Kd.R_far (p := ⟨gb106, 2, none⟩) (Kd.R_far (p := ⟨gb106, 1, none⟩) (Kd.R_far (p := ⟨gb106, 0, none⟩) (Kd.R_types HO_8.out BK106.out (by decide)) (fun _ hk => hk.2) (.int .i64 ((rd_T115 l0_0 x16_1).f0))) (fun _ hk => hk.2) (.int .i64 ((rd_T115 l0_0 x16_1).f1))) (fun _ hk => hk.2) (.int .i64 ((rd_T115 l0_0 x16_1).f2))) (fun _ hk => hk.2) (.int .i64 ((rd_T115 l0_0 x16_1).f3))) (fun _ hk => hk.1)))⟩; have n3_ : Aside0 (w30.heap[gb101]? = some (.cells #[.slice (some ad105) l0_0.length c0_0] 63 (0, 0))) := ⟨(by rw [hw]; exact qz24_)⟩; have n4_ : Aside0 (w30.heap[gb106]? = some (.cells #[.int .i64 ((rd_T115 l0_0 x16_1).f0), .int .i64 ((rd_T115 l0_0 x16_1).f1), .int .i64 ((rd_T115 l0_0 x16_1).f2), .int .i64 ((rd_T115 l0_0 x16_1).f3)] 115 (0, 0))) := ⟨(by rw [hw]; exact qz64_)⟩; have n5_ : Aside0 (Below w.heap.size w w30) := ⟨(by rw [hw]; exact qz23_)⟩; clear hw; clear HO_1; clear HO_2; clear HO_8; clear BK101; clear BK106; clear HB; have HO_1 := n0_; have HO_2 := n1_; have HO_8 := n2_; have BK101 := n3_; have BK106 := n4_; have HB := n5_; clear n0_ n1_ n2_ n3_ n4_ n5_; have hcz31_0 : w30.cell? ⟨gb106, 0, none⟩ = some (.int .i64 ((rd_T115 l0_0 x16_1).f0)) := (blk_cell BK106.out 0).trans rfl; have hcz31_1 : w30.cell? ⟨gb106, 1, none⟩ = some (.int .i64 ((rd_T115 l0_0 x16_1).f1)) := (blk_cell BK106.out 1).trans rfl; have hcz31_2 : w30.cell? ⟨gb106, 2, none⟩ = some (.int .i64 ((rd_T115 l0_0 x16_1).f2)) := (blk_cell BK106.out 2).trans rfl; have hcz31_3 : w30.cell? ⟨gb106, 3, none⟩ = some (.int .i64 ((rd_T115 l0_0 x16_1).f3)) := (blk_cell BK106.out 3).trans rfl; have hfz31_0 := blk_frozen BK106.out 0; have hfz31_1 := blk_frozen BK106.out 1; have hfz31_2 := blk_frozen BK106.out 2; have hfz31_3 := blk_frozen BK106.out 3; obtain ⟨Ao32, co32, eo32⟩ := Kd.V_slice HO_1.out; subst eo32; have p116 : 0 ≤ (0 : Int) := (by omega); have q116 : 0 < (x1_1.length : Int) := of_decide_eq_true qz0_; obtain ⟨ad116, e116, hx116_0⟩ := Kd.at_int (Kd.V_reads' HO_1.out).2.2 0 p116 q116; cases e116; have qi116 : (0 < x1_1.length) = True := eq_true (by omega); (try rw [show ((0 : Int)).toNat = 0 from rfl] at hx116_0); (try rw [Addr.add_zero'] at hx116_0); replace p116 := eq_true p116; replace q116 := eq_true q116; have q33 : (1 : Int) ≤ ((x1_1.length : Int) : Int) := of_decide_eq_true qz0_; obtain ⟨i033, hi033, _, hsz33, _⟩ := info_parts info3; have hroom33 : x1_1.length ≤ co32 := (Kd.V_reads' HO_1.out).2.1; have hC33 : Kd.F (Kd.int .i64) _ _ (some ad116) x1_1.length x1_1 := (Kd.V_at (base := w.heap.size) HO_1.out).2.2; have hcut33 := cut_from (P := Try.prog) 33 3 .i64 Try.underlying33 hi033 1 hsz33 (some ad116) x1_1.length co32 1 (by omega) q33; have hr33 := Kd.F_cut (m := (1 : Int).toNat) (c := co32) hC33 (by omega) hroom33; obtain ⟨A33, hA33⟩ : ∃ A1, A1 = (if co32 = (1 : Int).toNat then (some ad116) else ((some ad116) : Option Addr).map (·.add ((1 : Int).toNat * 1))) := ⟨_, rfl⟩; obtain ⟨c33, hc33⟩ : ∃ c1, c1 = co32 - (1 : Int).toNat := ⟨_, rfl⟩; have hy33 : y117.length = x1_1.length - (1 : Int).toNat := (by rw [Ny117.out, List.length_drop] <;> omega); rw [show (x1_1).drop (1 : Int).toNat = y117 from Ny117.out.symm] at hr33; replace hr33 : Kd.F (Kd.int .i64) _ _ A33 y117.length y117 := (by rw [hA33]; exact hr33); rw [← hy33, ← hA33, ← hc33] at hcut33; have HO121 := am_ (show Kd.V (Kd.int .i64) 3 _ w.heap.size _ (.slice A33 y117.length c33) y117 from Kd.V_mk (by rw [hy33, hc33]; exact Nat.sub_le_sub_right hroom33 _) hr33); have HC121 := am_ (show y117.length ≤ c33 from by rw [hy33, hc33]; exact Nat.sub_le_sub_right hroom33 _); clear hr33 hC33 hroom33 hi033 hsz33 hc33; have KY33 := am_ hy33; have KA33 := am_ hA33; clear hy33 hA33; replace q33 := eq_true q33) | ((with_reducible refine gate_builtin (b := .append) (xs := #[.tmp 106, .tmp 108]) rfl ?_); at_builtin; refine Kd.R_append (Kd.int .i64) (w0 := w) w.heap.size rfl (.tmp 106) (.tmp 108) 33 3 (.int .i64 0) 8 rfl Try.underlying33 info3 rfl (by decide) (by omega) u8 x8_1 (rd x1_1 0) [.int .i64 (rd x1_1 0)] (fun k_ => (w.heap.size ≤ k_)) (fun _ => False) rfl rfl ?aP (fun _ hk => hk.elim) ?aF ?aO ?aB ?aS ?aL ?_; (case aP => exact rfl); (case aB => exact qz23_); (case aF => exact (fun k_ hk => (Nat.le_trans (below_size qz23_) hk))); (case aO => exact qz61_); (case aS => exact (below_size qz23_)); (case aL => have := LMc26.out; omega); intro v123 w34 ho hb hg hat; rw [← Ny122.out] at ho; have n0_ := am_ (Kd.V_afterv (ok := (fun k_ => ((P1_ k_ ∨ P2_ k_) ∨ w.heap.size ≤ k_) ∧ k_ ≠ gb101 ∧ k_ ≠ gb106)) qz65_ hg hat); have n1_ := am_ (Kd.V_afterv (ok := (fun k_ => ((P1_ k_ ∨ P2_ k_) ∨ w.heap.size ≤ k_) ∧ k_ ≠ gb101 ∧ k_ ≠ gb106)) qz66_ hg hat); have n2_ := am_ (blk_grown (g := gb101) (o := .cells #[.slice (some ad105) l0_0.length c0_0] 63 (0, 0)) qz11_ hg (Kd.R_ne HO_8.out BK101.out (by decide))); have n3_ := am_ (blk_grown (g := gb106) (o := .cells #[.int .i64 ((rd_T115 l0_0 x16_1).f0), .int .i64 ((rd_T115 l0_0 x16_1).f1), .int .i64 ((rd_T115 l0_0 x16_1).f2), .int .i64 ((rd_T115 l0_0 x16_1).f3)] 115 (0, 0)) qz67_ hg (Kd.R_ne HO_8.out BK106.out (by decide))); have n4_ := am_ (Kd.V_afterv (ok := (fun k_ => ((P1_ k_ ∨ P2_ k_) ∨ w.heap.size ≤ k_) ∧ k_ ≠ gb101 ∧ k_ ≠ gb106)) (by (with_reducible repeat (first | apply Kd.V_alloc | apply Kd.V_drewN | apply Kd.V_drew)); exact Kd.V_mono HO121.out (fun _ hk => ⟨⟨hk.1, ⟨hk.2.2.1, hk.2.2.2⟩⟩, hk.2.1⟩)) hg hat); have n5_ := am_ (hb); have n6_ := am_ (ho); clear HO_1; clear HO_2; clear BK101; clear BK106; clear HO121; clear HB; clear HO_8; have HO_1 := n0_; have HO_2 := n1_; have BK101 := n2_; have BK106 := n3_; have HO121 := n4_; have HB := n5_; have HO124 := n6_; clear n0_ n1_ n2_ n3_ n4_ n5_ n6_; clear ho hb hg hat))
           repeat (go_quiet (fail); try go_wp2_with (first | ((with_reducible refine gate_dst (N := 10) rfl ?_); refine box_event ?hg (N := 10) ?hd (cs := #[.int .i64 0, .int .i64 0, .int .i64 0, .int .i64 0]) (t := 115) ?hr ?_; (case hd => rfl); (case hg => rfl); (case hr => first | (go_simp; done) | (go_simp; rfl)); intro gb106 hg w27 hbox hb; have n0_ := am_ (Kd.V_below (Kd.V_elderB qz59_ gb106 (Nat.le_of_eq hg.symm)) hb); have n1_ := am_ (Kd.V_below (Kd.V_elderB qz60_ gb106 (Nat.le_of_eq hg.symm)) hb); have n2_ := am_ (Kd.R_below qz61_ hb); have n3_ := am_ (blk_below (g := gb101) (o := .cells #[.slice (some ad105) l0_0.length c0_0] 63 (0, 0)) qz11_ hb); have n4_ := am_ (below_step qz10_ hb); have n5_ := am_ (hbox); have n6_ := am_ ((by rw [hg]; exact (below_size qz10_) : w.heap.size ≤ gb106)); have n7_ := am_ ((by rw [hg]; exact (below_size qz10_) : w.heap.size ≤ gb106)); have n8_ := am_ ((by rw [hg]; exact Nat.ne_of_lt (blk_lt (g := gb101) (o := .cells #[.slice (some ad105) l0_0.length c0_0] 63 (0, 0)) qz11_) : gb101 ≠ gb106)); have n9_ := am_ ((by rw [hg]; exact Nat.ne_of_gt (blk_lt (g := gb101) (o := .cells #[.slice (some ad105) l0_0.length c0_0] 63 (0, 0)) qz11_) : gb106 ≠ gb101)); clear HO_1; clear HO_2; clear HO_8; clear BK101; clear HB; have HO_1 := n0_; have HO_2 := n1_; have HO_8 := n2_; have BK101 := n3_; have HB := n4_; have BK106 := n5_; have GW106 := n6_; have GE106 := n7_; have NB101_106 := n8_; have NB106_101 := n9_; clear n0_ n1_ n2_ n3_ n4_ n5_ n6_ n7_ n8_ n9_; clear hb hbox hg; have hnb28 := NB106_101.out; have hnc28 := NB101_106.out; have hcz29_0 : w27.cell? ⟨gb106, 0, none⟩ = some (.int .i64 0) := (blk_cell BK106.out 0).trans rfl; have hcz29_1 : w27.cell? ⟨gb106, 1, none⟩ = some (.int .i64 0) := (blk_cell BK106.out 1).trans rfl; have hcz29_2 : w27.cell? ⟨gb106, 2, none⟩ = some (.int .i64 0) := (blk_cell BK106.out 2).trans rfl; have hcz29_3 : w27.cell? ⟨gb106, 3, none⟩ = some (.int .i64 0) := (blk_cell BK106.out 3).trans rfl; have hfz29_0 := blk_frozen BK106.out 0; have hfz29_1 := blk_frozen BK106.out 1; have hfz29_2 := blk_frozen BK106.out 2; have hfz29_3 := blk_frozen BK106.out 3) | ((with_reducible refine gate_store (t := 115) (p := 10) rfl ?_); (try (rw [drewN_self w27]; generalize hq_ : World.drewN w27 _ = w27; have n0_ := am_ (Kd.V_at hq_ HO_1.out); have n1_ := am_ (Kd.V_at hq_ HO_2.out); have n2_ := am_ (Kd.R_at hq_ HO_8.out); have n3_ := am_ (blk_at hq_ BK101.out); have n4_ := am_ (blk_at hq_ BK106.out); have n5_ := am_ (below_at hq_ HB.out); clear hq_ HO_1 HO_2 HO_8 BK101 BK106 HB; have HO_1 := n0_; have HO_2 := n1_; have HO_8 := n2_; have BK101 := n3_; have BK106 := n4_; have HB := n5_; clear n0_ n1_ n2_ n3_ n4_ n5_)); refine store_event (t := 115) (p := 10) (v := ?vo_w30) (w1 := ((((w27.setCell ⟨gb106, 0, none⟩ (.int .i64 ((rd_T115 l0_0 x16_1).f0))).setCell ⟨gb106, 1, none⟩ (.int .i64 ((rd_T115 l0_0 x16_1).f1))).setCell ⟨gb106, 2, none⟩ (.int .i64 ((rd_T115 l0_0 x16_1).f2))).setCell ⟨gb106, 3, none⟩ (.int .i64 ((rd_T115 l0_0 x16_1).f3)))) ?hg ?ho ?hn ?hr ?_; (case ho => rfl); (case hg => rfl); (case hn => rfl); (case hr => first | (go_simp; done) | (go_simp; rfl)); intro w30 hw; have n0_ : Aside0 (Kd.V (Kd.int .i64) 3 w30 w.heap.size (fun k_ => ((P1_ k_ ∨ P2_ k_) ∨ w.heap.size ≤ k_) ∧ some k_ ≠ (u8 : Value).ownBlock ∧ k_ ≠ gb101 ∧ k_ ≠ gb106) u1 x1_1) := ⟨(by rw [hw]; exact qz62_)⟩; have n1_ : Aside0 (Kd.V (Kd.int .i64) 3 w30 w.heap.size (fun k_ => ((P1_ k_ ∨ P2_ k_) ∨ w.heap.size ≤ k_) ∧ some k_ ≠ (u8 : Value).ownBlock ∧ k_ ≠ gb101 ∧ k_ ≠ gb106) u2 x2_1) := ⟨(by rw [hw]; exact qz63_)⟩; have n2_ : Aside0 (Kd.R (Kd.int .i64) 3 w30 w.heap.size (fun k_ => (w.heap.size ≤ k_)) u8 x8_1) := ⟨(by rw [hw]; exact (by (with_reducible repeat (first | apply Kd.R_alloc | apply Kd.R_drewN | apply Kd.R_drew)); exact Kd.R_mono (Kd.R_far (p := ⟨gb106, 3, none⟩) (Kd.R_far (p := ⟨gb106, 2, none⟩) (Kd.R_far (p := ⟨gb106, 1, none⟩) (Kd.R_far (p := ⟨gb106, 0, none⟩) (Kd.R_types HO_8.out BK106.out (by decide)) (fun _ hk => hk.2) (.int .i64 ((rd_T115 l0_0 x16_1).f0))) (fun _ hk => hk.2) (.int .i64 ((rd_T115 l0_0 x16_1).f1))) (fun _ hk => hk.2) (.int .i64 ((rd_T115 l0_0 x16_1).f2))) (fun _ hk => hk.2) (.int .i64 ((rd_T115 l0_0 x16_1).f3))) (fun _ hk => hk.1)))⟩; have n3_ : Aside0 (w30.heap[gb101]? = some (.cells #[.slice (some ad105) l0_0.length c0_0] 63 (0, 0))) := ⟨(by rw [hw]; exact qz24_)⟩; have n4_ : Aside0 (w30.heap[gb106]? = some (.cells #[.int .i64 ((rd_T115 l0_0 x16_1).f0), .int .i64 ((rd_T115 l0_0 x16_1).f1), .int .i64 ((rd_T115 l0_0 x16_1).f2), .int .i64 ((rd_T115 l0_0 x16_1).f3)] 115 (0, 0))) := ⟨(by rw [hw]; exact qz64_)⟩; have n5_ : Aside0 (Below w.heap.size w w30) := ⟨(by rw [hw]; exact qz23_)⟩; clear hw; clear HO_1; clear HO_2; clear HO_8; clear BK101; clear BK106; clear HB; have HO_1 := n0_; have HO_2 := n1_; have HO_8 := n2_; have BK101 := n3_; have BK106 := n4_; have HB := n5_; clear n0_ n1_ n2_ n3_ n4_ n5_; have hcz31_0 : w30.cell? ⟨gb106, 0, none⟩ = some (.int .i64 ((rd_T115 l0_0 x16_1).f0)) := (blk_cell BK106.out 0).trans rfl; have hcz31_1 : w30.cell? ⟨gb106, 1, none⟩ = some (.int .i64 ((rd_T115 l0_0 x16_1).f1)) := (blk_cell BK106.out 1).trans rfl; have hcz31_2 : w30.cell? ⟨gb106, 2, none⟩ = some (.int .i64 ((rd_T115 l0_0 x16_1).f2)) := (blk_cell BK106.out 2).trans rfl; have hcz31_3 : w30.cell? ⟨gb106, 3, none⟩ = some (.int .i64 ((rd_T115 l0_0 x16_1).f3)) := (blk_cell BK106.out 3).trans rfl; have hfz31_0 := blk_frozen BK106.out 0; have hfz31_1 := blk_frozen BK106.out 1; have hfz31_2 := blk_frozen BK106.out 2; have hfz31_3 := blk_frozen BK106.out 3; obtain ⟨Ao32, co32, eo32⟩ := Kd.V_slice HO_1.out; subst eo32; have p116 : 0 ≤ (0 : Int) := (by omega); have q116 : 0 < (x1_1.length : Int) := of_decide_eq_true qz0_; obtain ⟨ad116, e116, hx116_0⟩ := Kd.at_int (Kd.V_reads' HO_1.out).2.2 0 p116 q116; cases e116; have qi116 : (0 < x1_1.length) = True := eq_true (by omega); (try rw [show ((0 : Int)).toNat = 0 from rfl] at hx116_0); (try rw [Addr.add_zero'] at hx116_0); replace p116 := eq_true p116; replace q116 := eq_true q116; have q33 : (1 : Int) ≤ ((x1_1.length : Int) : Int) := of_decide_eq_true qz0_; obtain ⟨i033, hi033, _, hsz33, _⟩ := info_parts info3; have hroom33 : x1_1.length ≤ co32 := (Kd.V_reads' HO_1.out).2.1; have hC33 : Kd.F (Kd.int .i64) _ _ (some ad116) x1_1.length x1_1 := (Kd.V_at (base := w.heap.size) HO_1.out).2.2; have hcut33 := cut_from (P := Try.prog) 33 3 .i64 Try.underlying33 hi033 1 hsz33 (some ad116) x1_1.length co32 1 (by omega) q33; have hr33 := Kd.F_cut (m := (1 : Int).toNat) (c := co32) hC33 (by omega) hroom33; obtain ⟨A33, hA33⟩ : ∃ A1, A1 = (if co32 = (1 : Int).toNat then (some ad116) else ((some ad116) : Option Addr).map (·.add ((1 : Int).toNat * 1))) := ⟨_, rfl⟩; obtain ⟨c33, hc33⟩ : ∃ c1, c1 = co32 - (1 : Int).toNat := ⟨_, rfl⟩; have hy33 : y117.length = x1_1.length - (1 : Int).toNat := (by rw [Ny117.out, List.length_drop] <;> omega); rw [show (x1_1).drop (1 : Int).toNat = y117 from Ny117.out.symm] at hr33; replace hr33 : Kd.F (Kd.int .i64) _ _ A33 y117.length y117 := (by rw [hA33]; exact hr33); rw [← hy33, ← hA33, ← hc33] at hcut33; have HO121 := am_ (show Kd.V (Kd.int .i64) 3 _ w.heap.size _ (.slice A33 y117.length c33) y117 from Kd.V_mk (by rw [hy33, hc33]; exact Nat.sub_le_sub_right hroom33 _) hr33); have HC121 := am_ (show y117.length ≤ c33 from by rw [hy33, hc33]; exact Nat.sub_le_sub_right hroom33 _); clear hr33 hC33 hroom33 hi033 hsz33 hc33; have KY33 := am_ hy33; have KA33 := am_ hA33; clear hy33 hA33; replace q33 := eq_true q33) | ((with_reducible refine gate_builtin (b := .append) (xs := #[.tmp 106, .tmp 108]) rfl ?_); at_builtin; refine Kd.R_append (Kd.int .i64) (w0 := w) w.heap.size rfl (.tmp 106) (.tmp 108) 33 3 (.int .i64 0) 8 rfl Try.underlying33 info3 rfl (by decide) (by omega) u8 x8_1 (rd x1_1 0) [.int .i64 (rd x1_1 0)] (fun k_ => (w.heap.size ≤ k_)) (fun _ => False) rfl rfl ?aP (fun _ hk => hk.elim) ?aF ?aO ?aB ?aS ?aL ?_; (case aP => exact rfl); (case aB => exact qz23_); (case aF => exact (fun k_ hk => (Nat.le_trans (below_size qz23_) hk))); (case aO => exact qz61_); (case aS => exact (below_size qz23_)); (case aL => have := LMc26.out; omega); intro v123 w34 ho hb hg hat; rw [← Ny122.out] at ho; have n0_ := am_ (Kd.V_afterv (ok := (fun k_ => ((P1_ k_ ∨ P2_ k_) ∨ w.heap.size ≤ k_) ∧ k_ ≠ gb101 ∧ k_ ≠ gb106)) qz65_ hg hat); have n1_ := am_ (Kd.V_afterv (ok := (fun k_ => ((P1_ k_ ∨ P2_ k_) ∨ w.heap.size ≤ k_) ∧ k_ ≠ gb101 ∧ k_ ≠ gb106)) qz66_ hg hat); have n2_ := am_ (blk_grown (g := gb101) (o := .cells #[.slice (some ad105) l0_0.length c0_0] 63 (0, 0)) qz11_ hg (Kd.R_ne HO_8.out BK101.out (by decide))); have n3_ := am_ (blk_grown (g := gb106) (o := .cells #[.int .i64 ((rd_T115 l0_0 x16_1).f0), .int .i64 ((rd_T115 l0_0 x16_1).f1), .int .i64 ((rd_T115 l0_0 x16_1).f2), .int .i64 ((rd_T115 l0_0 x16_1).f3)] 115 (0, 0)) qz67_ hg (Kd.R_ne HO_8.out BK106.out (by decide))); have n4_ := am_ (Kd.V_afterv (ok := (fun k_ => ((P1_ k_ ∨ P2_ k_) ∨ w.heap.size ≤ k_) ∧ k_ ≠ gb101 ∧ k_ ≠ gb106)) (by (with_reducible repeat (first | apply Kd.V_alloc | apply Kd.V_drewN | apply Kd.V_drew)); exact Kd.V_mono HO121.out (fun _ hk => ⟨⟨hk.1, ⟨hk.2.2.1, hk.2.2.2⟩⟩, hk.2.1⟩)) hg hat); have n5_ := am_ (hb); have n6_ := am_ (ho); clear HO_1; clear HO_2; clear BK101; clear BK106; clear HO121; clear HB; clear HO_8; have HO_1 := n0_; have HO_2 := n1_; have BK101 := n2_; have BK106 := n3_; have HO121 := n4_; have HB := n5_; have HO124 := n6_; clear n0_ n1_ n2_ n3_ n4_ n5_ n6_; clear ho hb hg hat)))
           go_roundg k1
           case measure => have := HK1.out; omega
           case rel => exact ⟨(y117), (x2_1), (y122), (wrap64 (x16_1 + 1)), qz2_, H', ⟨qz3_⟩, ⟨by (with_reducible repeat (first | apply Kd.V_alloc | apply Kd.V_drewN | apply Kd.V_drew)); exact Kd.V_mono HO121.out (fun _ hk => ⟨hk.1.1, ⟨hk.2, hk.1.2.1⟩⟩)⟩, ⟨by (with_reducible repeat (first | apply Kd.V_alloc | apply Kd.V_drewN | apply Kd.V_drew)); exact Kd.V_mono HO_2.out (fun _ hk => ⟨hk.1.1, ⟨hk.2, hk.1.2.1⟩⟩)⟩, ⟨(by (with_reducible repeat (first | apply Kd.R_alloc | apply Kd.R_drewN | apply Kd.R_drew)); exact HO124.out)⟩, ⟨qz11_⟩, ⟨qz23_⟩⟩
          ·
           rw [if_neg c26] at H
           exact absurd H (by simp)
         ·
          rw [if_neg c25] at H
          exact absurd H (by simp)
        ·
         rw [if_neg c24] at H
         exact absurd H (by simp)
       ·
        rw [if_neg c23] at H
        have c23b0 : (((rd_T115 l0_0 x16_1).f0) == 2) = false := beq_eq_false_iff_ne.mpr c23
        have c23b1 : (((rd_T115 l0_0 x16_1).f0) != 2) = true := bne_iff_ne.mpr c23
        by_cases c35 : ((rd_T115 l0_0 x16_1).f0) = 4
        ·
         rw [if_pos c35] at H
         have c35b0 : (((rd_T115 l0_0 x16_1).f0) == 4) = true := beq_iff_eq.mpr c35
         have c35b1 : (((rd_T115 l0_0 x16_1).f0) != 4) = false := bne_eq_false_iff_eq.mpr c35
         clear c35
         by_cases c36 : 0 ≤ ((rd_T115 l0_0 x16_1).f1)
         ·
          rw [if_pos c36] at H
          have c36b0 : decide (0 ≤ ((rd_T115 l0_0 x16_1).f1)) = true := decide_eq_true c36
          clear c36
          by_cases c37 : ((rd_T115 l0_0 x16_1).f1) < (x8_1.length : Int)
          ·
           rw [if_pos c37] at H
           have c37b0 : decide (((rd_T115 l0_0 x16_1).f1) < (x8_1.length : Int)) = true := decide_eq_true c37
           clear c37
           by_cases c38 : 0 ≤ ((rd_T115 l0_0 x16_1).f2)
           ·
            rw [if_pos c38] at H
            have c38b0 : decide (0 ≤ ((rd_T115 l0_0 x16_1).f2)) = true := decide_eq_true c38
            clear c38
            by_cases c39 : ((rd_T115 l0_0 x16_1).f2) < (x8_1.length : Int)
            ·
             rw [if_pos c39] at H
             have c39b0 : decide (((rd_T115 l0_0 x16_1).f2) < (x8_1.length : Int)) = true := decide_eq_true c39
             clear c39
             replace H := Option.bind_eq_some_iff.mp H
             obtain ⟨t127, A400, H⟩ := H
             replace H : (if x8_1.length < 17592186044416 then (impl_Circuit_run.l0 k1 x1_1 x2_1 (x8_1 ++ [t127]) l0_0 (l0_0.length : Int) (wrap64 (x16_1 + 1))) else (none)) = some (r1, r2) := H
             have A40 := am_ A400
             clear A400
             by_cases c41 : x8_1.length < 17592186044416
             ·
              rw [if_pos c41] at H
              have LMc41 := am_ c41
              clear c41
              obtain ⟨y128, hy128⟩ : ∃ y_ : List Int, y_ = (x8_1 ++ [t127]) := ⟨_, rfl⟩
              replace H : (impl_Circuit_run.l0 k1 x1_1 x2_1 y128 l0_0 (l0_0.length : Int) (wrap64 (x16_1 + 1))) = some (r1, r2) := by first | (rw [hy128]; with_reducible exact H) | (have H2_ := (Option.bind_some _ _).symm.trans H; rw [hy128]; with_reducible exact H2_) | (have H2_ := (Option.bind_some _ _).symm.trans H; with_reducible exact H2_) | with_reducible exact H | (rw [hy128]; exact H) | exact H
              have Ny128 := am_ hy128
              clear hy128
              have H' := am_ H
              clear H
              have p105 : 0 ≤ (x16_1 : Int) := of_decide_eq_true qz0_
              have q105 : x16_1 < (l0_0.length : Int) := of_decide_eq_true qz0_
              obtain ⟨ad105, e105, hx105_0, hx105_1, hx105_2, hx105_3⟩ := at_T115 HR0_0.out x16_1 p105 q105
              cases e105
              replace hx105_0 := (HB.out.cell (World.block_lt_of_cell? w _ hx105_0)).trans hx105_0
              replace hx105_1 := (HB.out.cell (World.block_lt_of_cell? w _ hx105_1)).trans hx105_1
              replace hx105_2 := (HB.out.cell (World.block_lt_of_cell? w _ hx105_2)).trans hx105_2
              replace hx105_3 := (HB.out.cell (World.block_lt_of_cell? w _ hx105_3)).trans hx105_3
              replace p105 := eq_true p105
              replace q105 := eq_true q105
              go_wp2_with (first | ((with_reducible refine gate_dst (N := 10) rfl ?_); refine box_event ?hg (N := 10) ?hd (cs := #[.int .i64 0, .int .i64 0, .int .i64 0, .int .i64 0]) (t := 115) ?hr ?_; (case hd => rfl); (case hg => rfl); (case hr => first | (go_simp; done) | (go_simp; rfl)); intro gb106 hg w42 hbox hb; have n0_ := am_ (Kd.V_below (Kd.V_elderB qz59_ gb106 (Nat.le_of_eq hg.symm)) hb); have n1_ := am_ (Kd.V_below (Kd.V_elderB qz60_ gb106 (Nat.le_of_eq hg.symm)) hb); have n2_ := am_ (Kd.R_below qz61_ hb); have n3_ := am_ (blk_below (g := gb101) (o := .cells #[.slice (some ad105) l0_0.length c0_0] 63 (0, 0)) qz11_ hb); have n4_ := am_ (below_step qz10_ hb); have n5_ := am_ (hbox); have n6_ := am_ ((by rw [hg]; exact (below_size qz10_) : w.heap.size ≤ gb106)); have n7_ := am_ ((by rw [hg]; exact (below_size qz10_) : w.heap.size ≤ gb106)); have n8_ := am_ ((by rw [hg]; exact Nat.ne_of_lt (blk_lt (g := gb101) (o := .cells #[.slice (some ad105) l0_0.length c0_0] 63 (0, 0)) qz11_) : gb101 ≠ gb106)); have n9_ := am_ ((by rw [hg]; exact Nat.ne_of_gt (blk_lt (g := gb101) (o := .cells #[.slice (some ad105) l0_0.length c0_0] 63 (0, 0)) qz11_) : gb106 ≠ gb101)); clear HO_1; clear HO_2; clear HO_8; clear BK101; clear HB; have HO_1 := n0_; have HO_2 := n1_; have HO_8 := n2_; have BK101 := n3_; have HB := n4_; have BK106 := n5_; have GW106 := n6_; have GE106 := n7_; have NB101_106 := n8_; have NB106_101 := n9_; clear n0_ n1_ n2_ n3_ n4_ n5_ n6_ n7_ n8_ n9_; clear hb hbox hg; have hnb43 := NB106_101.out; have hnc43 := NB101_106.out; have hcz44_0 : w42.cell? ⟨gb106, 0, none⟩ = some (.int .i64 0) := (blk_cell BK106.out 0).trans rfl; have hcz44_1 : w42.cell? ⟨gb106, 1, none⟩ = some (.int .i64 0) := (blk_cell BK106.out 1).trans rfl; have hcz44_2 : w42.cell? ⟨gb106, 2, none⟩ = some (.int .i64 0) := (blk_cell BK106.out 2).trans rfl; have hcz44_3 : w42.cell? ⟨gb106, 3, none⟩ = some (.int .i64 0) := (blk_cell BK106.out 3).trans rfl; have hfz44_0 := blk_frozen BK106.out 0; have hfz44_1 := blk_frozen BK106.out 1; have hfz44_2 := blk_frozen BK106.out 2; have hfz44_3 := blk_frozen BK106.out 3; obtain ⟨Ao45, co45, eo45⟩ := Kd.R_slice HO_8.out; subst eo45; have p125 : 0 ≤ (((rd_T115 l0_0 x16_1).f1) : Int) := of_decide_eq_true qz0_; have q125 : ((rd_T115 l0_0 x16_1).f1) < (x8_1.length : Int) := of_decide_eq_true qz0_; obtain ⟨ad125, e125, hx125_0⟩ := Kd.at_int (Kd.R_reads' HO_8.out).2.2 ((rd_T115 l0_0 x16_1).f1) p125 q125; cases e125; have hn125_0 : ad125.block ≠ gb106 := Kd.own_blk (Kd.R_ne HO_8.out BK106.out (by decide)); have hn125_1 : ad125.block ≠ gb106 := Kd.own_blk (Kd.R_ne HO_8.out BK106.out (by decide)); have hn125_2 : ad125.block ≠ gb106 := Kd.own_blk (Kd.R_ne HO_8.out BK106.out (by decide)); have hn125_3 : ad125.block ≠ gb106 := Kd.own_blk (Kd.R_ne HO_8.out BK106.out (by decide)); replace hx125_0 := (cell_far (p := ⟨gb106, 0, none⟩) qz29_ (.int .i64 ((rd_T115 l0_0 x16_1).f0))).trans hx125_0; replace hx125_0 := (cell_far (p := ⟨gb106, 1, none⟩) qz30_ (.int .i64 ((rd_T115 l0_0 x16_1).f1))).trans hx125_0; replace hx125_0 := (cell_far (p := ⟨gb106, 2, none⟩) qz31_ (.int .i64 ((rd_T115 l0_0 x16_1).f2))).trans hx125_0; replace hx125_0 := (cell_far (p := ⟨gb106, 3, none⟩) qz32_ (.int .i64 ((rd_T115 l0_0 x16_1).f3))).trans hx125_0; (try have hy125_0 := fun (n_ : Nat) => (show ((((((w42.drewN n_).setCell ⟨gb106, 0, none⟩ (.int .i64 ((rd_T115 l0_0 x16_1).f0))).setCell ⟨gb106, 1, none⟩ (.int .i64 ((rd_T115 l0_0 x16_1).f1))).setCell ⟨gb106, 2, none⟩ (.int .i64 ((rd_T115 l0_0 x16_1).f2))).setCell ⟨gb106, 3, none⟩ (.int .i64 ((rd_T115 l0_0 x16_1).f3)))).cell? _ = some _ from hx125_0)); clear hn125_0; clear hn125_1; clear hn125_2; clear hn125_3; replace p125 := eq_true p125; replace q125 := eq_true q125; have p126 : 0 ≤ (((rd_T115 l0_0 x16_1).f2) : Int) := of_decide_eq_true qz0_; have q126 : ((rd_T115 l0_0 x16_1).f2) < (x8_1.length : Int) := of_decide_eq_true qz0_; obtain ⟨ad126, e126, hx126_0⟩ := Kd.at_int (Kd.R_reads' HO_8.out).2.2 ((rd_T115 l0_0 x16_1).f2) p126 q126; obtain rfl : ad125 = ad126 := (by injection e126); have hn126_0 : ad125.block ≠ gb106 := Kd.own_blk (Kd.R_ne HO_8.out BK106.out (by decide)); have hn126_1 : ad125.block ≠ gb106 := Kd.own_blk (Kd.R_ne HO_8.out BK106.out (by decide)); have hn126_2 : ad125.block ≠ gb106 := Kd.own_blk (Kd.R_ne HO_8.out BK106.out (by decide)); have hn126_3 : ad125.block ≠ gb106 := Kd.own_blk (Kd.R_ne HO_8.out BK106.out (by decide)); replace hx126_0 := (cell_far (p := ⟨gb106, 0, none⟩) (by first | (rw [add_block]; exact hn126_0) | (show (Addr.add _ _).block ≠ _; rw [add_block]; exact hn126_0) | exact hn126_0) (.int .i64 ((rd_T115 l0_0 x16_1).f0))).trans hx126_0; replace hx126_0 := (cell_far (p := ⟨gb106, 1, none⟩) (by first | (rw [add_block]; exact hn126_1) | (show (Addr.add _ _).block ≠ _; rw [add_block]; exact hn126_1) | exact hn126_1) (.int .i64 ((rd_T115 l0_0 x16_1).f1))).trans hx126_0; replace hx126_0 := (cell_far (p := ⟨gb106, 2, none⟩) (by first | (rw [add_block]; exact hn126_2) | (show (Addr.add _ _).block ≠ _; rw [add_block]; exact hn126_2) | exact hn126_2) (.int .i64 ((rd_T115 l0_0 x16_1).f2))).trans hx126_0; replace hx126_0 := (cell_far (p := ⟨gb106, 3, none⟩) (by first | (rw [add_block]; exact hn126_3) | (show (Addr.add _ _).block ≠ _; rw [add_block]; exact hn126_3) | exact hn126_3) (.int .i64 ((rd_T115 l0_0 x16_1).f3))).trans hx126_0; (try have hy126_0 := fun (n_ : Nat) => (show ((((((w42.drewN n_).setCell ⟨gb106, 0, none⟩ (.int .i64 ((rd_T115 l0_0 x16_1).f0))).setCell ⟨gb106, 1, none⟩ (.int .i64 ((rd_T115 l0_0 x16_1).f1))).setCell ⟨gb106, 2, none⟩ (.int .i64 ((rd_T115 l0_0 x16_1).f2))).setCell ⟨gb106, 3, none⟩ (.int .i64 ((rd_T115 l0_0 x16_1).f3)))).cell? _ = some _ from hx126_0)); clear hn126_0; clear hn126_1; clear hn126_2; clear hn126_3; replace p126 := eq_true p126; replace q126 := eq_true q126) | (go_at_call 67; (with_reducible refine (impl_add.calls (rd x8_1 ((rd_T115 l0_0 x16_1).f1)) (rd x8_1 ((rd_T115 l0_0 x16_1).f2)) t127 _ A40.out).mono ?_); rintro e w' ⟨rfl, ⟨nd, rfl⟩⟩; (try first | exact ⟨rfl, _, qd1_⟩ | exact ⟨rfl, _, qd2_⟩)) | ((with_reducible refine gate_builtin (b := .append) (xs := #[.tmp 106, .tmp 108]) rfl ?_); at_builtin; refine Kd.R_append (Kd.int .i64) (w0 := w) w.heap.size rfl (.tmp 106) (.tmp 108) 33 3 (.int .i64 0) 8 rfl Try.underlying33 info3 rfl (by decide) (by omega) (.slice (some ad125) x8_1.length co45) x8_1 t127 [.int .i64 t127] (fun k_ => (w.heap.size ≤ k_)) (fun _ => False) rfl qz22_ ?aP (fun _ hk => hk.elim) ?aF ?aO ?aB ?aS ?aL ?_; (case aP => exact rfl); (case aB => exact qz23_); (case aF => exact (fun k_ hk => (Nat.le_trans (below_size qz23_) hk))); (case aO => exact (by (with_reducible repeat (first | apply Kd.R_alloc | apply Kd.R_drewN | apply Kd.R_drew)); exact Kd.R_mono (Kd.R_far (p := ⟨gb106, 3, none⟩) (Kd.R_far (p := ⟨gb106, 2, none⟩) (Kd.R_far (p := ⟨gb106, 1, none⟩) (Kd.R_far (p := ⟨gb106, 0, none⟩) (Kd.R_types HO_8.out BK106.out (by decide)) (fun _ hk => hk.2) (.int .i64 ((rd_T115 l0_0 x16_1).f0))) (fun _ hk => hk.2) (.int .i64 ((rd_T115 l0_0 x16_1).f1))) (fun _ hk => hk.2) (.int .i64 ((rd_T115 l0_0 x16_1).f2))) (fun _ hk => hk.2) (.int .i64 ((rd_T115 l0_0 x16_1).f3))) (fun _ hk => hk.1))); (case aS => exact (below_size qz23_)); (case aL => have := LMc41.out; omega); intro v129 w46 ho hb hg hat; rw [← Ny128.out] at ho; have n0_ := am_ (Kd.V_afterv (ok := (fun k_ => ((P1_ k_ ∨ P2_ k_) ∨ w.heap.size ≤ k_) ∧ k_ ≠ gb101 ∧ k_ ≠ gb106)) qz68_ hg hat); have n1_ := am_ (Kd.V_afterv (ok := (fun k_ => ((P1_ k_ ∨ P2_ k_) ∨ w.heap.size ≤ k_) ∧ k_ ≠ gb101 ∧ k_ ≠ gb106)) qz69_ hg hat); have n2_ := am_ (blk_grown (g := gb101) (o := .cells #[.slice (some ad105) l0_0.length c0_0] 63 (0, 0)) qz24_ hg (Kd.R_ne HO_8.out BK101.out (by decide))); have n3_ := am_ (blk_grown (g := gb106) (o := .cells #[.int .i64 ((rd_T115 l0_0 x16_1).f0), .int .i64 ((rd_T115 l0_0 x16_1).f1), .int .i64 ((rd_T115 l0_0 x16_1).f2), .int .i64 ((rd_T115 l0_0 x16_1).f3)] 115 (0, 0)) qz64_ hg (Kd.R_ne HO_8.out BK106.out (by decide))); have n4_ := am_ (hb); have n5_ := am_ (ho); clear HO_1; clear HO_2; clear BK101; clear BK106; clear HB; clear HO_8; have HO_1 := n0_; have HO_2 := n1_; have BK101 := n2_; have BK106 := n3_; have HB := n4_; have HO130 := n5_; clear n0_ n1_ n2_ n3_ n4_ n5_; clear ho hb hg hat))
              repeat (go_quiet (first | (go_at_call 67; (with_reducible refine (impl_add.calls (rd x8_1 ((rd_T115 l0_0 x16_1).f1)) (rd x8_1 ((rd_T115 l0_0 x16_1).f2)) t127 _ A40.out).mono ?_); rintro e w' ⟨rfl, ⟨nd, rfl⟩⟩; (try first | exact ⟨rfl, _, qd1_⟩ | exact ⟨rfl, _, qd2_⟩))); try go_wp2_with (first | ((with_reducible refine gate_dst (N := 10) rfl ?_); refine box_event ?hg (N := 10) ?hd (cs := #[.int .i64 0, .int .i64 0, .int .i64 0, .int .i64 0]) (t := 115) ?hr ?_; (case hd => rfl); (case hg => rfl); (case hr => first | (go_simp; done) | (go_simp; rfl)); intro gb106 hg w42 hbox hb; have n0_ := am_ (Kd.V_below (Kd.V_elderB qz59_ gb106 (Nat.le_of_eq hg.symm)) hb); have n1_ := am_ (Kd.V_below (Kd.V_elderB qz60_ gb106 (Nat.le_of_eq hg.symm)) hb); have n2_ := am_ (Kd.R_below qz61_ hb); have n3_ := am_ (blk_below (g := gb101) (o := .cells #[.slice (some ad105) l0_0.length c0_0] 63 (0, 0)) qz11_ hb); have n4_ := am_ (below_step qz10_ hb); have n5_ := am_ (hbox); have n6_ := am_ ((by rw [hg]; exact (below_size qz10_) : w.heap.size ≤ gb106)); have n7_ := am_ ((by rw [hg]; exact (below_size qz10_) : w.heap.size ≤ gb106)); have n8_ := am_ ((by rw [hg]; exact Nat.ne_of_lt (blk_lt (g := gb101) (o := .cells #[.slice (some ad105) l0_0.length c0_0] 63 (0, 0)) qz11_) : gb101 ≠ gb106)); have n9_ := am_ ((by rw [hg]; exact Nat.ne_of_gt (blk_lt (g := gb101) (o := .cells #[.slice (some ad105) l0_0.length c0_0] 63 (0, 0)) qz11_) : gb106 ≠ gb101)); clear HO_1; clear HO_2; clear HO_8; clear BK101; clear HB; have HO_1 := n0_; have HO_2 := n1_; have HO_8 := n2_; have BK101 := n3_; have HB := n4_; have BK106 := n5_; have GW106 := n6_; have GE106 := n7_; have NB101_106 := n8_; have NB106_101 := n9_; clear n0_ n1_ n2_ n3_ n4_ n5_ n6_ n7_ n8_ n9_; clear hb hbox hg; have hnb43 := NB106_101.out; have hnc43 := NB101_106.out; have hcz44_0 : w42.cell? ⟨gb106, 0, none⟩ = some (.int .i64 0) := (blk_cell BK106.out 0).trans rfl; have hcz44_1 : w42.cell? ⟨gb106, 1, none⟩ = some (.int .i64 0) := (blk_cell BK106.out 1).trans rfl; have hcz44_2 : w42.cell? ⟨gb106, 2, none⟩ = some (.int .i64 0) := (blk_cell BK106.out 2).trans rfl; have hcz44_3 : w42.cell? ⟨gb106, 3, none⟩ = some (.int .i64 0) := (blk_cell BK106.out 3).trans rfl; have hfz44_0 := blk_frozen BK106.out 0; have hfz44_1 := blk_frozen BK106.out 1; have hfz44_2 := blk_frozen BK106.out 2; have hfz44_3 := blk_frozen BK106.out 3; obtain ⟨Ao45, co45, eo45⟩ := Kd.R_slice HO_8.out; subst eo45; have p125 : 0 ≤ (((rd_T115 l0_0 x16_1).f1) : Int) := of_decide_eq_true qz0_; have q125 : ((rd_T115 l0_0 x16_1).f1) < (x8_1.length : Int) := of_decide_eq_true qz0_; obtain ⟨ad125, e125, hx125_0⟩ := Kd.at_int (Kd.R_reads' HO_8.out).2.2 ((rd_T115 l0_0 x16_1).f1) p125 q125; cases e125; have hn125_0 : ad125.block ≠ gb106 := Kd.own_blk (Kd.R_ne HO_8.out BK106.out (by decide)); have hn125_1 : ad125.block ≠ gb106 := Kd.own_blk (Kd.R_ne HO_8.out BK106.out (by decide)); have hn125_2 : ad125.block ≠ gb106 := Kd.own_blk (Kd.R_ne HO_8.out BK106.out (by decide)); have hn125_3 : ad125.block ≠ gb106 := Kd.own_blk (Kd.R_ne HO_8.out BK106.out (by decide)); replace hx125_0 := (cell_far (p := ⟨gb106, 0, none⟩) qz29_ (.int .i64 ((rd_T115 l0_0 x16_1).f0))).trans hx125_0; replace hx125_0 := (cell_far (p := ⟨gb106, 1, none⟩) qz30_ (.int .i64 ((rd_T115 l0_0 x16_1).f1))).trans hx125_0; replace hx125_0 := (cell_far (p := ⟨gb106, 2, none⟩) qz31_ (.int .i64 ((rd_T115 l0_0 x16_1).f2))).trans hx125_0; replace hx125_0 := (cell_far (p := ⟨gb106, 3, none⟩) qz32_ (.int .i64 ((rd_T115 l0_0 x16_1).f3))).trans hx125_0; (try have hy125_0 := fun (n_ : Nat) => (show ((((((w42.drewN n_).setCell ⟨gb106, 0, none⟩ (.int .i64 ((rd_T115 l0_0 x16_1).f0))).setCell ⟨gb106, 1, none⟩ (.int .i64 ((rd_T115 l0_0 x16_1).f1))).setCell ⟨gb106, 2, none⟩ (.int .i64 ((rd_T115 l0_0 x16_1).f2))).setCell ⟨gb106, 3, none⟩ (.int .i64 ((rd_T115 l0_0 x16_1).f3)))).cell? _ = some _ from hx125_0)); clear hn125_0; clear hn125_1; clear hn125_2; clear hn125_3; replace p125 := eq_true p125; replace q125 := eq_true q125; have p126 : 0 ≤ (((rd_T115 l0_0 x16_1).f2) : Int) := of_decide_eq_true qz0_; have q126 : ((rd_T115 l0_0 x16_1).f2) < (x8_1.length : Int) := of_decide_eq_true qz0_; obtain ⟨ad126, e126, hx126_0⟩ := Kd.at_int (Kd.R_reads' HO_8.out).2.2 ((rd_T115 l0_0 x16_1).f2) p126 q126; obtain rfl : ad125 = ad126 := (by injection e126); have hn126_0 : ad125.block ≠ gb106 := Kd.own_blk (Kd.R_ne HO_8.out BK106.out (by decide)); have hn126_1 : ad125.block ≠ gb106 := Kd.own_blk (Kd.R_ne HO_8.out BK106.out (by decide)); have hn126_2 : ad125.block ≠ gb106 := Kd.own_blk (Kd.R_ne HO_8.out BK106.out (by decide)); have hn126_3 : ad125.block ≠ gb106 := Kd.own_blk (Kd.R_ne HO_8.out BK106.out (by decide)); replace hx126_0 := (cell_far (p := ⟨gb106, 0, none⟩) (by first | (rw [add_block]; exact hn126_0) | (show (Addr.add _ _).block ≠ _; rw [add_block]; exact hn126_0) | exact hn126_0) (.int .i64 ((rd_T115 l0_0 x16_1).f0))).trans hx126_0; replace hx126_0 := (cell_far (p := ⟨gb106, 1, none⟩) (by first | (rw [add_block]; exact hn126_1) | (show (Addr.add _ _).block ≠ _; rw [add_block]; exact hn126_1) | exact hn126_1) (.int .i64 ((rd_T115 l0_0 x16_1).f1))).trans hx126_0; replace hx126_0 := (cell_far (p := ⟨gb106, 2, none⟩) (by first | (rw [add_block]; exact hn126_2) | (show (Addr.add _ _).block ≠ _; rw [add_block]; exact hn126_2) | exact hn126_2) (.int .i64 ((rd_T115 l0_0 x16_1).f2))).trans hx126_0; replace hx126_0 := (cell_far (p := ⟨gb106, 3, none⟩) (by first | (rw [add_block]; exact hn126_3) | (show (Addr.add _ _).block ≠ _; rw [add_block]; exact hn126_3) | exact hn126_3) (.int .i64 ((rd_T115 l0_0 x16_1).f3))).trans hx126_0; (try have hy126_0 := fun (n_ : Nat) => (show ((((((w42.drewN n_).setCell ⟨gb106, 0, none⟩ (.int .i64 ((rd_T115 l0_0 x16_1).f0))).setCell ⟨gb106, 1, none⟩ (.int .i64 ((rd_T115 l0_0 x16_1).f1))).setCell ⟨gb106, 2, none⟩ (.int .i64 ((rd_T115 l0_0 x16_1).f2))).setCell ⟨gb106, 3, none⟩ (.int .i64 ((rd_T115 l0_0 x16_1).f3)))).cell? _ = some _ from hx126_0)); clear hn126_0; clear hn126_1; clear hn126_2; clear hn126_3; replace p126 := eq_true p126; replace q126 := eq_true q126) | (go_at_call 67; (with_reducible refine (impl_add.calls (rd x8_1 ((rd_T115 l0_0 x16_1).f1)) (rd x8_1 ((rd_T115 l0_0 x16_1).f2)) t127 _ A40.out).mono ?_); rintro e w' ⟨rfl, ⟨nd, rfl⟩⟩; (try first | exact ⟨rfl, _, qd1_⟩ | exact ⟨rfl, _, qd2_⟩)) | ((with_reducible refine gate_builtin (b := .append) (xs := #[.tmp 106, .tmp 108]) rfl ?_); at_builtin; refine Kd.R_append (Kd.int .i64) (w0 := w) w.heap.size rfl (.tmp 106) (.tmp 108) 33 3 (.int .i64 0) 8 rfl Try.underlying33 info3 rfl (by decide) (by omega) (.slice (some ad125) x8_1.length co45) x8_1 t127 [.int .i64 t127] (fun k_ => (w.heap.size ≤ k_)) (fun _ => False) rfl qz22_ ?aP (fun _ hk => hk.elim) ?aF ?aO ?aB ?aS ?aL ?_; (case aP => exact rfl); (case aB => exact qz23_); (case aF => exact (fun k_ hk => (Nat.le_trans (below_size qz23_) hk))); (case aO => exact (by (with_reducible repeat (first | apply Kd.R_alloc | apply Kd.R_drewN | apply Kd.R_drew)); exact Kd.R_mono (Kd.R_far (p := ⟨gb106, 3, none⟩) (Kd.R_far (p := ⟨gb106, 2, none⟩) (Kd.R_far (p := ⟨gb106, 1, none⟩) (Kd.R_far (p := ⟨gb106, 0, none⟩) (Kd.R_types HO_8.out BK106.out (by decide)) (fun _ hk => hk.2) (.int .i64 ((rd_T115 l0_0 x16_1).f0))) (fun _ hk => hk.2) (.int .i64 ((rd_T115 l0_0 x16_1).f1))) (fun _ hk => hk.2) (.int .i64 ((rd_T115 l0_0 x16_1).f2))) (fun _ hk => hk.2) (.int .i64 ((rd_T115 l0_0 x16_1).f3))) (fun _ hk => hk.1))); (case aS => exact (below_size qz23_)); (case aL => have := LMc41.out; omega); intro v129 w46 ho hb hg hat; rw [← Ny128.out] at ho; have n0_ := am_ (Kd.V_afterv (ok := (fun k_ => ((P1_ k_ ∨ P2_ k_) ∨ w.heap.size ≤ k_) ∧ k_ ≠ gb101 ∧ k_ ≠ gb106)) qz68_ hg hat); have n1_ := am_ (Kd.V_afterv (ok := (fun k_ => ((P1_ k_ ∨ P2_ k_) ∨ w.heap.size ≤ k_) ∧ k_ ≠ gb101 ∧ k_ ≠ gb106)) qz69_ hg hat); have n2_ := am_ (blk_grown (g := gb101) (o := .cells #[.slice (some ad105) l0_0.length c0_0] 63 (0, 0)) qz24_ hg (Kd.R_ne HO_8.out BK101.out (by decide))); have n3_ := am_ (blk_grown (g := gb106) (o := .cells #[.int .i64 ((rd_T115 l0_0 x16_1).f0), .int .i64 ((rd_T115 l0_0 x16_1).f1), .int .i64 ((rd_T115 l0_0 x16_1).f2), .int .i64 ((rd_T115 l0_0 x16_1).f3)] 115 (0, 0)) qz64_ hg (Kd.R_ne HO_8.out BK106.out (by decide))); have n4_ := am_ (hb); have n5_ := am_ (ho); clear HO_1; clear HO_2; clear BK101; clear BK106; clear HB; clear HO_8; have HO_1 := n0_; have HO_2 := n1_; have BK101 := n2_; have BK106 := n3_; have HB := n4_; have HO130 := n5_; clear n0_ n1_ n2_ n3_ n4_ n5_; clear ho hb hg hat)))
              go_roundg k1
              case measure => have := HK1.out; omega
              case rel => exact ⟨(x1_1), (x2_1), (y128), (wrap64 (x16_1 + 1)), qz2_, H', ⟨qz3_⟩, ⟨by (with_reducible repeat (first | apply Kd.V_alloc | apply Kd.V_drewN | apply Kd.V_drew)); exact Kd.V_mono HO_1.out (fun _ hk => ⟨hk.1.1, ⟨hk.2, hk.1.2.1⟩⟩)⟩, ⟨by (with_reducible repeat (first | apply Kd.V_alloc | apply Kd.V_drewN | apply Kd.V_drew)); exact Kd.V_mono HO_2.out (fun _ hk => ⟨hk.1.1, ⟨hk.2, hk.1.2.1⟩⟩)⟩, ⟨(by (with_reducible repeat (first | apply Kd.R_alloc | apply Kd.R_drewN | apply Kd.R_drew)); exact HO130.out)⟩, ⟨qz11_⟩, ⟨qz23_⟩⟩
             ·
              rw [if_neg c41] at H
              exact absurd H (by simp)
            ·
             rw [if_neg c39] at H
             exact absurd H (by simp)
           ·
            rw [if_neg c38] at H
            exact absurd H (by simp)
          ·
           rw [if_neg c37] at H
           exact absurd H (by simp)
         ·
          rw [if_neg c36] at H
          exact absurd H (by simp)
        ·
         rw [if_neg c35] at H
         have c35b0 : (((rd_T115 l0_0 x16_1).f0) == 4) = false := beq_eq_false_iff_ne.mpr c35
         have c35b1 : (((rd_T115 l0_0 x16_1).f0) != 4) = true := bne_iff_ne.mpr c35
         by_cases c47 : ((rd_T115 l0_0 x16_1).f0) = 5
         ·
          rw [if_pos c47] at H
          have c47b0 : (((rd_T115 l0_0 x16_1).f0) == 5) = true := beq_iff_eq.mpr c47
          have c47b1 : (((rd_T115 l0_0 x16_1).f0) != 5) = false := bne_eq_false_iff_eq.mpr c47
          clear c47
          by_cases c48 : 0 ≤ ((rd_T115 l0_0 x16_1).f1)
          ·
           rw [if_pos c48] at H
           have c48b0 : decide (0 ≤ ((rd_T115 l0_0 x16_1).f1)) = true := decide_eq_true c48
           clear c48
           by_cases c49 : ((rd_T115 l0_0 x16_1).f1) < (x8_1.length : Int)
           ·
            rw [if_pos c49] at H
            have c49b0 : decide (((rd_T115 l0_0 x16_1).f1) < (x8_1.length : Int)) = true := decide_eq_true c49
            clear c49
            by_cases c50 : 0 ≤ ((rd_T115 l0_0 x16_1).f2)
            ·
             rw [if_pos c50] at H
             have c50b0 : decide (0 ≤ ((rd_T115 l0_0 x16_1).f2)) = true := decide_eq_true c50
             clear c50
             by_cases c51 : ((rd_T115 l0_0 x16_1).f2) < (x8_1.length : Int)
             ·
              rw [if_pos c51] at H
              have c51b0 : decide (((rd_T115 l0_0 x16_1).f2) < (x8_1.length : Int)) = true := decide_eq_true c51
              clear c51
              replace H := Option.bind_eq_some_iff.mp H
              obtain ⟨t133, A520, H⟩ := H
              replace H : (if x8_1.length < 17592186044416 then (impl_Circuit_run.l0 k1 x1_1 x2_1 (x8_1 ++ [t133]) l0_0 (l0_0.length : Int) (wrap64 (x16_1 + 1))) else (none)) = some (r1, r2) := H
              have A52 := am_ A520
              clear A520
              by_cases c53 : x8_1.length < 17592186044416
              ·
               rw [if_pos c53] at H
               have LMc53 := am_ c53
               clear c53
               obtain ⟨y134, hy134⟩ : ∃ y_ : List Int, y_ = (x8_1 ++ [t133]) := ⟨_, rfl⟩
               replace H : (impl_Circuit_run.l0 k1 x1_1 x2_1 y134 l0_0 (l0_0.length : Int) (wrap64 (x16_1 + 1))) = some (r1, r2) := by first | (rw [hy134]; with_reducible exact H) | (have H2_ := (Option.bind_some _ _).symm.trans H; rw [hy134]; with_reducible exact H2_) | (have H2_ := (Option.bind_some _ _).symm.trans H; with_reducible exact H2_) | with_reducible exact H | (rw [hy134]; exact H) | exact H
               have Ny134 := am_ hy134
               clear hy134
               have H' := am_ H
               clear H
               have p105 : 0 ≤ (x16_1 : Int) := of_decide_eq_true qz0_
               have q105 : x16_1 < (l0_0.length : Int) := of_decide_eq_true qz0_
               obtain ⟨ad105, e105, hx105_0, hx105_1, hx105_2, hx105_3⟩ := at_T115 HR0_0.out x16_1 p105 q105
               cases e105
               replace hx105_0 := (HB.out.cell (World.block_lt_of_cell? w _ hx105_0)).trans hx105_0
               replace hx105_1 := (HB.out.cell (World.block_lt_of_cell? w _ hx105_1)).trans hx105_1
               replace hx105_2 := (HB.out.cell (World.block_lt_of_cell? w _ hx105_2)).trans hx105_2
               replace hx105_3 := (HB.out.cell (World.block_lt_of_cell? w _ hx105_3)).trans hx105_3
               replace p105 := eq_true p105
               replace q105 := eq_true q105
               go_wp2_with (first | ((with_reducible refine gate_dst (N := 10) rfl ?_); refine box_event ?hg (N := 10) ?hd (cs := #[.int .i64 0, .int .i64 0, .int .i64 0, .int .i64 0]) (t := 115) ?hr ?_; (case hd => rfl); (case hg => rfl); (case hr => first | (go_simp; done) | (go_simp; rfl)); intro gb106 hg w54 hbox hb; have n0_ := am_ (Kd.V_below (Kd.V_elderB qz59_ gb106 (Nat.le_of_eq hg.symm)) hb); have n1_ := am_ (Kd.V_below (Kd.V_elderB qz60_ gb106 (Nat.le_of_eq hg.symm)) hb); have n2_ := am_ (Kd.R_below qz61_ hb); have n3_ := am_ (blk_below (g := gb101) (o := .cells #[.slice (some ad105) l0_0.length c0_0] 63 (0, 0)) qz11_ hb); have n4_ := am_ (below_step qz10_ hb); have n5_ := am_ (hbox); have n6_ := am_ ((by rw [hg]; exact (below_size qz10_) : w.heap.size ≤ gb106)); have n7_ := am_ ((by rw [hg]; exact (below_size qz10_) : w.heap.size ≤ gb106)); have n8_ := am_ ((by rw [hg]; exact Nat.ne_of_lt (blk_lt (g := gb101) (o := .cells #[.slice (some ad105) l0_0.length c0_0] 63 (0, 0)) qz11_) : gb101 ≠ gb106)); have n9_ := am_ ((by rw [hg]; exact Nat.ne_of_gt (blk_lt (g := gb101) (o := .cells #[.slice (some ad105) l0_0.length c0_0] 63 (0, 0)) qz11_) : gb106 ≠ gb101)); clear HO_1; clear HO_2; clear HO_8; clear BK101; clear HB; have HO_1 := n0_; have HO_2 := n1_; have HO_8 := n2_; have BK101 := n3_; have HB := n4_; have BK106 := n5_; have GW106 := n6_; have GE106 := n7_; have NB101_106 := n8_; have NB106_101 := n9_; clear n0_ n1_ n2_ n3_ n4_ n5_ n6_ n7_ n8_ n9_; clear hb hbox hg; have hnb55 := NB106_101.out; have hnc55 := NB101_106.out; have hcz56_0 : w54.cell? ⟨gb106, 0, none⟩ = some (.int .i64 0) := (blk_cell BK106.out 0).trans rfl; have hcz56_1 : w54.cell? ⟨gb106, 1, none⟩ = some (.int .i64 0) := (blk_cell BK106.out 1).trans rfl; have hcz56_2 : w54.cell? ⟨gb106, 2, none⟩ = some (.int .i64 0) := (blk_cell BK106.out 2).trans rfl; have hcz56_3 : w54.cell? ⟨gb106, 3, none⟩ = some (.int .i64 0) := (blk_cell BK106.out 3).trans rfl; have hfz56_0 := blk_frozen BK106.out 0; have hfz56_1 := blk_frozen BK106.out 1; have hfz56_2 := blk_frozen BK106.out 2; have hfz56_3 := blk_frozen BK106.out 3; obtain ⟨Ao57, co57, eo57⟩ := Kd.R_slice HO_8.out; subst eo57; have p131 : 0 ≤ (((rd_T115 l0_0 x16_1).f1) : Int) := of_decide_eq_true qz0_; have q131 : ((rd_T115 l0_0 x16_1).f1) < (x8_1.length : Int) := of_decide_eq_true qz0_; obtain ⟨ad131, e131, hx131_0⟩ := Kd.at_int (Kd.R_reads' HO_8.out).2.2 ((rd_T115 l0_0 x16_1).f1) p131 q131; cases e131; have hn131_0 : ad131.block ≠ gb106 := Kd.own_blk (Kd.R_ne HO_8.out BK106.out (by decide)); have hn131_1 : ad131.block ≠ gb106 := Kd.own_blk (Kd.R_ne HO_8.out BK106.out (by decide)); have hn131_2 : ad131.block ≠ gb106 := Kd.own_blk (Kd.R_ne HO_8.out BK106.out (by decide)); have hn131_3 : ad131.block ≠ gb106 := Kd.own_blk (Kd.R_ne HO_8.out BK106.out (by decide)); replace hx131_0 := (cell_far (p := ⟨gb106, 0, none⟩) qz33_ (.int .i64 ((rd_T115 l0_0 x16_1).f0))).trans hx131_0; replace hx131_0 := (cell_far (p := ⟨gb106, 1, none⟩) qz34_ (.int .i64 ((rd_T115 l0_0 x16_1).f1))).trans hx131_0; replace hx131_0 := (cell_far (p := ⟨gb106, 2, none⟩) qz35_ (.int .i64 ((rd_T115 l0_0 x16_1).f2))).trans hx131_0; replace hx131_0 := (cell_far (p := ⟨gb106, 3, none⟩) qz36_ (.int .i64 ((rd_T115 l0_0 x16_1).f3))).trans hx131_0; (try have hy131_0 := fun (n_ : Nat) => (show ((((((w54.drewN n_).setCell ⟨gb106, 0, none⟩ (.int .i64 ((rd_T115 l0_0 x16_1).f0))).setCell ⟨gb106, 1, none⟩ (.int .i64 ((rd_T115 l0_0 x16_1).f1))).setCell ⟨gb106, 2, none⟩ (.int .i64 ((rd_T115 l0_0 x16_1).f2))).setCell ⟨gb106, 3, none⟩ (.int .i64 ((rd_T115 l0_0 x16_1).f3)))).cell? _ = some _ from hx131_0)); clear hn131_0; clear hn131_1; clear hn131_2; clear hn131_3; replace p131 := eq_true p131; replace q131 := eq_true q131; have p132 : 0 ≤ (((rd_T115 l0_0 x16_1).f2) : Int) := of_decide_eq_true qz0_; have q132 : ((rd_T115 l0_0 x16_1).f2) < (x8_1.length : Int) := of_decide_eq_true qz0_; obtain ⟨ad132, e132, hx132_0⟩ := Kd.at_int (Kd.R_reads' HO_8.out).2.2 ((rd_T115 l0_0 x16_1).f2) p132 q132; obtain rfl : ad131 = ad132 := (by injection e132); have hn132_0 : ad131.block ≠ gb106 := Kd.own_blk (Kd.R_ne HO_8.out BK106.out (by decide)); have hn132_1 : ad131.block ≠ gb106 := Kd.own_blk (Kd.R_ne HO_8.out BK106.out (by decide)); have hn132_2 : ad131.block ≠ gb106 := Kd.own_blk (Kd.R_ne HO_8.out BK106.out (by decide)); have hn132_3 : ad131.block ≠ gb106 := Kd.own_blk (Kd.R_ne HO_8.out BK106.out (by decide)); replace hx132_0 := (cell_far (p := ⟨gb106, 0, none⟩) (by first | (rw [add_block]; exact hn132_0) | (show (Addr.add _ _).block ≠ _; rw [add_block]; exact hn132_0) | exact hn132_0) (.int .i64 ((rd_T115 l0_0 x16_1).f0))).trans hx132_0; replace hx132_0 := (cell_far (p := ⟨gb106, 1, none⟩) (by first | (rw [add_block]; exact hn132_1) | (show (Addr.add _ _).block ≠ _; rw [add_block]; exact hn132_1) | exact hn132_1) (.int .i64 ((rd_T115 l0_0 x16_1).f1))).trans hx132_0; replace hx132_0 := (cell_far (p := ⟨gb106, 2, none⟩) (by first | (rw [add_block]; exact hn132_2) | (show (Addr.add _ _).block ≠ _; rw [add_block]; exact hn132_2) | exact hn132_2) (.int .i64 ((rd_T115 l0_0 x16_1).f2))).trans hx132_0; replace hx132_0 := (cell_far (p := ⟨gb106, 3, none⟩) (by first | (rw [add_block]; exact hn132_3) | (show (Addr.add _ _).block ≠ _; rw [add_block]; exact hn132_3) | exact hn132_3) (.int .i64 ((rd_T115 l0_0 x16_1).f3))).trans hx132_0; (try have hy132_0 := fun (n_ : Nat) => (show ((((((w54.drewN n_).setCell ⟨gb106, 0, none⟩ (.int .i64 ((rd_T115 l0_0 x16_1).f0))).setCell ⟨gb106, 1, none⟩ (.int .i64 ((rd_T115 l0_0 x16_1).f1))).setCell ⟨gb106, 2, none⟩ (.int .i64 ((rd_T115 l0_0 x16_1).f2))).setCell ⟨gb106, 3, none⟩ (.int .i64 ((rd_T115 l0_0 x16_1).f3)))).cell? _ = some _ from hx132_0)); clear hn132_0; clear hn132_1; clear hn132_2; clear hn132_3; replace p132 := eq_true p132; replace q132 := eq_true q132) | (go_at_call 98; (with_reducible refine (impl_sub.calls (rd x8_1 ((rd_T115 l0_0 x16_1).f1)) (rd x8_1 ((rd_T115 l0_0 x16_1).f2)) t133 _ A52.out).mono ?_); rintro e w' ⟨rfl, ⟨nd, rfl⟩⟩; (try first | exact ⟨rfl, _, qd1_⟩ | exact ⟨rfl, _, qd2_⟩)) | ((with_reducible refine gate_builtin (b := .append) (xs := #[.tmp 106, .tmp 108]) rfl ?_); at_builtin; refine Kd.R_append (Kd.int .i64) (w0 := w) w.heap.size rfl (.tmp 106) (.tmp 108) 33 3 (.int .i64 0) 8 rfl Try.underlying33 info3 rfl (by decide) (by omega) (.slice (some ad131) x8_1.length co57) x8_1 t133 [.int .i64 t133] (fun k_ => (w.heap.size ≤ k_)) (fun _ => False) rfl qz22_ ?aP (fun _ hk => hk.elim) ?aF ?aO ?aB ?aS ?aL ?_; (case aP => exact rfl); (case aB => exact qz23_); (case aF => exact (fun k_ hk => (Nat.le_trans (below_size qz23_) hk))); (case aO => exact (by (with_reducible repeat (first | apply Kd.R_alloc | apply Kd.R_drewN | apply Kd.R_drew)); exact Kd.R_mono (Kd.R_far (p := ⟨gb106, 3, none⟩) (Kd.R_far (p := ⟨gb106, 2, none⟩) (Kd.R_far (p := ⟨gb106, 1, none⟩) (Kd.R_far (p := ⟨gb106, 0, none⟩) (Kd.R_types HO_8.out BK106.out (by decide)) (fun _ hk => hk.2) (.int .i64 ((rd_T115 l0_0 x16_1).f0))) (fun _ hk => hk.2) (.int .i64 ((rd_T115 l0_0 x16_1).f1))) (fun _ hk => hk.2) (.int .i64 ((rd_T115 l0_0 x16_1).f2))) (fun _ hk => hk.2) (.int .i64 ((rd_T115 l0_0 x16_1).f3))) (fun _ hk => hk.1))); (case aS => exact (below_size qz23_)); (case aL => have := LMc53.out; omega); intro v135 w58 ho hb hg hat; rw [← Ny134.out] at ho; have n0_ := am_ (Kd.V_afterv (ok := (fun k_ => ((P1_ k_ ∨ P2_ k_) ∨ w.heap.size ≤ k_) ∧ k_ ≠ gb101 ∧ k_ ≠ gb106)) qz68_ hg hat); have n1_ := am_ (Kd.V_afterv (ok := (fun k_ => ((P1_ k_ ∨ P2_ k_) ∨ w.heap.size ≤ k_) ∧ k_ ≠ gb101 ∧ k_ ≠ gb106)) qz69_ hg hat); have n2_ := am_ (blk_grown (g := gb101) (o := .cells #[.slice (some ad105) l0_0.length c0_0] 63 (0, 0)) qz24_ hg (Kd.R_ne HO_8.out BK101.out (by decide))); have n3_ := am_ (blk_grown (g := gb106) (o := .cells #[.int .i64 ((rd_T115 l0_0 x16_1).f0), .int .i64 ((rd_T115 l0_0 x16_1).f1), .int .i64 ((rd_T115 l0_0 x16_1).f2), .int .i64 ((rd_T115 l0_0 x16_1).f3)] 115 (0, 0)) qz64_ hg (Kd.R_ne HO_8.out BK106.out (by decide))); have n4_ := am_ (hb); have n5_ := am_ (ho); clear HO_1; clear HO_2; clear BK101; clear BK106; clear HB; clear HO_8; have HO_1 := n0_; have HO_2 := n1_; have BK101 := n2_; have BK106 := n3_; have HB := n4_; have HO136 := n5_; clear n0_ n1_ n2_ n3_ n4_ n5_; clear ho hb hg hat))
               repeat (go_quiet (first | (go_at_call 98; (with_reducible refine (impl_sub.calls (rd x8_1 ((rd_T115 l0_0 x16_1).f1)) (rd x8_1 ((rd_T115 l0_0 x16_1).f2)) t133 _ A52.out).mono ?_); rintro e w' ⟨rfl, ⟨nd, rfl⟩⟩; (try first | exact ⟨rfl, _, qd1_⟩ | exact ⟨rfl, _, qd2_⟩))); try go_wp2_with (first | ((with_reducible refine gate_dst (N := 10) rfl ?_); refine box_event ?hg (N := 10) ?hd (cs := #[.int .i64 0, .int .i64 0, .int .i64 0, .int .i64 0]) (t := 115) ?hr ?_; (case hd => rfl); (case hg => rfl); (case hr => first | (go_simp; done) | (go_simp; rfl)); intro gb106 hg w54 hbox hb; have n0_ := am_ (Kd.V_below (Kd.V_elderB qz59_ gb106 (Nat.le_of_eq hg.symm)) hb); have n1_ := am_ (Kd.V_below (Kd.V_elderB qz60_ gb106 (Nat.le_of_eq hg.symm)) hb); have n2_ := am_ (Kd.R_below qz61_ hb); have n3_ := am_ (blk_below (g := gb101) (o := .cells #[.slice (some ad105) l0_0.length c0_0] 63 (0, 0)) qz11_ hb); have n4_ := am_ (below_step qz10_ hb); have n5_ := am_ (hbox); have n6_ := am_ ((by rw [hg]; exact (below_size qz10_) : w.heap.size ≤ gb106)); have n7_ := am_ ((by rw [hg]; exact (below_size qz10_) : w.heap.size ≤ gb106)); have n8_ := am_ ((by rw [hg]; exact Nat.ne_of_lt (blk_lt (g := gb101) (o := .cells #[.slice (some ad105) l0_0.length c0_0] 63 (0, 0)) qz11_) : gb101 ≠ gb106)); have n9_ := am_ ((by rw [hg]; exact Nat.ne_of_gt (blk_lt (g := gb101) (o := .cells #[.slice (some ad105) l0_0.length c0_0] 63 (0, 0)) qz11_) : gb106 ≠ gb101)); clear HO_1; clear HO_2; clear HO_8; clear BK101; clear HB; have HO_1 := n0_; have HO_2 := n1_; have HO_8 := n2_; have BK101 := n3_; have HB := n4_; have BK106 := n5_; have GW106 := n6_; have GE106 := n7_; have NB101_106 := n8_; have NB106_101 := n9_; clear n0_ n1_ n2_ n3_ n4_ n5_ n6_ n7_ n8_ n9_; clear hb hbox hg; have hnb55 := NB106_101.out; have hnc55 := NB101_106.out; have hcz56_0 : w54.cell? ⟨gb106, 0, none⟩ = some (.int .i64 0) := (blk_cell BK106.out 0).trans rfl; have hcz56_1 : w54.cell? ⟨gb106, 1, none⟩ = some (.int .i64 0) := (blk_cell BK106.out 1).trans rfl; have hcz56_2 : w54.cell? ⟨gb106, 2, none⟩ = some (.int .i64 0) := (blk_cell BK106.out 2).trans rfl; have hcz56_3 : w54.cell? ⟨gb106, 3, none⟩ = some (.int .i64 0) := (blk_cell BK106.out 3).trans rfl; have hfz56_0 := blk_frozen BK106.out 0; have hfz56_1 := blk_frozen BK106.out 1; have hfz56_2 := blk_frozen BK106.out 2; have hfz56_3 := blk_frozen BK106.out 3; obtain ⟨Ao57, co57, eo57⟩ := Kd.R_slice HO_8.out; subst eo57; have p131 : 0 ≤ (((rd_T115 l0_0 x16_1).f1) : Int) := of_decide_eq_true qz0_; have q131 : ((rd_T115 l0_0 x16_1).f1) < (x8_1.length : Int) := of_decide_eq_true qz0_; obtain ⟨ad131, e131, hx131_0⟩ := Kd.at_int (Kd.R_reads' HO_8.out).2.2 ((rd_T115 l0_0 x16_1).f1) p131 q131; cases e131; have hn131_0 : ad131.block ≠ gb106 := Kd.own_blk (Kd.R_ne HO_8.out BK106.out (by decide)); have hn131_1 : ad131.block ≠ gb106 := Kd.own_blk (Kd.R_ne HO_8.out BK106.out (by decide)); have hn131_2 : ad131.block ≠ gb106 := Kd.own_blk (Kd.R_ne HO_8.out BK106.out (by decide)); have hn131_3 : ad131.block ≠ gb106 := Kd.own_blk (Kd.R_ne HO_8.out BK106.out (by decide)); replace hx131_0 := (cell_far (p := ⟨gb106, 0, none⟩) qz33_ (.int .i64 ((rd_T115 l0_0 x16_1).f0))).trans hx131_0; replace hx131_0 := (cell_far (p := ⟨gb106, 1, none⟩) qz34_ (.int .i64 ((rd_T115 l0_0 x16_1).f1))).trans hx131_0; replace hx131_0 := (cell_far (p := ⟨gb106, 2, none⟩) qz35_ (.int .i64 ((rd_T115 l0_0 x16_1).f2))).trans hx131_0; replace hx131_0 := (cell_far (p := ⟨gb106, 3, none⟩) qz36_ (.int .i64 ((rd_T115 l0_0 x16_1).f3))).trans hx131_0; (try have hy131_0 := fun (n_ : Nat) => (show ((((((w54.drewN n_).setCell ⟨gb106, 0, none⟩ (.int .i64 ((rd_T115 l0_0 x16_1).f0))).setCell ⟨gb106, 1, none⟩ (.int .i64 ((rd_T115 l0_0 x16_1).f1))).setCell ⟨gb106, 2, none⟩ (.int .i64 ((rd_T115 l0_0 x16_1).f2))).setCell ⟨gb106, 3, none⟩ (.int .i64 ((rd_T115 l0_0 x16_1).f3)))).cell? _ = some _ from hx131_0)); clear hn131_0; clear hn131_1; clear hn131_2; clear hn131_3; replace p131 := eq_true p131; replace q131 := eq_true q131; have p132 : 0 ≤ (((rd_T115 l0_0 x16_1).f2) : Int) := of_decide_eq_true qz0_; have q132 : ((rd_T115 l0_0 x16_1).f2) < (x8_1.length : Int) := of_decide_eq_true qz0_; obtain ⟨ad132, e132, hx132_0⟩ := Kd.at_int (Kd.R_reads' HO_8.out).2.2 ((rd_T115 l0_0 x16_1).f2) p132 q132; obtain rfl : ad131 = ad132 := (by injection e132); have hn132_0 : ad131.block ≠ gb106 := Kd.own_blk (Kd.R_ne HO_8.out BK106.out (by decide)); have hn132_1 : ad131.block ≠ gb106 := Kd.own_blk (Kd.R_ne HO_8.out BK106.out (by decide)); have hn132_2 : ad131.block ≠ gb106 := Kd.own_blk (Kd.R_ne HO_8.out BK106.out (by decide)); have hn132_3 : ad131.block ≠ gb106 := Kd.own_blk (Kd.R_ne HO_8.out BK106.out (by decide)); replace hx132_0 := (cell_far (p := ⟨gb106, 0, none⟩) (by first | (rw [add_block]; exact hn132_0) | (show (Addr.add _ _).block ≠ _; rw [add_block]; exact hn132_0) | exact hn132_0) (.int .i64 ((rd_T115 l0_0 x16_1).f0))).trans hx132_0; replace hx132_0 := (cell_far (p := ⟨gb106, 1, none⟩) (by first | (rw [add_block]; exact hn132_1) | (show (Addr.add _ _).block ≠ _; rw [add_block]; exact hn132_1) | exact hn132_1) (.int .i64 ((rd_T115 l0_0 x16_1).f1))).trans hx132_0; replace hx132_0 := (cell_far (p := ⟨gb106, 2, none⟩) (by first | (rw [add_block]; exact hn132_2) | (show (Addr.add _ _).block ≠ _; rw [add_block]; exact hn132_2) | exact hn132_2) (.int .i64 ((rd_T115 l0_0 x16_1).f2))).trans hx132_0; replace hx132_0 := (cell_far (p := ⟨gb106, 3, none⟩) (by first | (rw [add_block]; exact hn132_3) | (show (Addr.add _ _).block ≠ _; rw [add_block]; exact hn132_3) | exact hn132_3) (.int .i64 ((rd_T115 l0_0 x16_1).f3))).trans hx132_0; (try have hy132_0 := fun (n_ : Nat) => (show ((((((w54.drewN n_).setCell ⟨gb106, 0, none⟩ (.int .i64 ((rd_T115 l0_0 x16_1).f0))).setCell ⟨gb106, 1, none⟩ (.int .i64 ((rd_T115 l0_0 x16_1).f1))).setCell ⟨gb106, 2, none⟩ (.int .i64 ((rd_T115 l0_0 x16_1).f2))).setCell ⟨gb106, 3, none⟩ (.int .i64 ((rd_T115 l0_0 x16_1).f3)))).cell? _ = some _ from hx132_0)); clear hn132_0; clear hn132_1; clear hn132_2; clear hn132_3; replace p132 := eq_true p132; replace q132 := eq_true q132) | (go_at_call 98; (with_reducible refine (impl_sub.calls (rd x8_1 ((rd_T115 l0_0 x16_1).f1)) (rd x8_1 ((rd_T115 l0_0 x16_1).f2)) t133 _ A52.out).mono ?_); rintro e w' ⟨rfl, ⟨nd, rfl⟩⟩; (try first | exact ⟨rfl, _, qd1_⟩ | exact ⟨rfl, _, qd2_⟩)) | ((with_reducible refine gate_builtin (b := .append) (xs := #[.tmp 106, .tmp 108]) rfl ?_); at_builtin; refine Kd.R_append (Kd.int .i64) (w0 := w) w.heap.size rfl (.tmp 106) (.tmp 108) 33 3 (.int .i64 0) 8 rfl Try.underlying33 info3 rfl (by decide) (by omega) (.slice (some ad131) x8_1.length co57) x8_1 t133 [.int .i64 t133] (fun k_ => (w.heap.size ≤ k_)) (fun _ => False) rfl qz22_ ?aP (fun _ hk => hk.elim) ?aF ?aO ?aB ?aS ?aL ?_; (case aP => exact rfl); (case aB => exact qz23_); (case aF => exact (fun k_ hk => (Nat.le_trans (below_size qz23_) hk))); (case aO => exact (by (with_reducible repeat (first | apply Kd.R_alloc | apply Kd.R_drewN | apply Kd.R_drew)); exact Kd.R_mono (Kd.R_far (p := ⟨gb106, 3, none⟩) (Kd.R_far (p := ⟨gb106, 2, none⟩) (Kd.R_far (p := ⟨gb106, 1, none⟩) (Kd.R_far (p := ⟨gb106, 0, none⟩) (Kd.R_types HO_8.out BK106.out (by decide)) (fun _ hk => hk.2) (.int .i64 ((rd_T115 l0_0 x16_1).f0))) (fun _ hk => hk.2) (.int .i64 ((rd_T115 l0_0 x16_1).f1))) (fun _ hk => hk.2) (.int .i64 ((rd_T115 l0_0 x16_1).f2))) (fun _ hk => hk.2) (.int .i64 ((rd_T115 l0_0 x16_1).f3))) (fun _ hk => hk.1))); (case aS => exact (below_size qz23_)); (case aL => have := LMc53.out; omega); intro v135 w58 ho hb hg hat; rw [← Ny134.out] at ho; have n0_ := am_ (Kd.V_afterv (ok := (fun k_ => ((P1_ k_ ∨ P2_ k_) ∨ w.heap.size ≤ k_) ∧ k_ ≠ gb101 ∧ k_ ≠ gb106)) qz68_ hg hat); have n1_ := am_ (Kd.V_afterv (ok := (fun k_ => ((P1_ k_ ∨ P2_ k_) ∨ w.heap.size ≤ k_) ∧ k_ ≠ gb101 ∧ k_ ≠ gb106)) qz69_ hg hat); have n2_ := am_ (blk_grown (g := gb101) (o := .cells #[.slice (some ad105) l0_0.length c0_0] 63 (0, 0)) qz24_ hg (Kd.R_ne HO_8.out BK101.out (by decide))); have n3_ := am_ (blk_grown (g := gb106) (o := .cells #[.int .i64 ((rd_T115 l0_0 x16_1).f0), .int .i64 ((rd_T115 l0_0 x16_1).f1), .int .i64 ((rd_T115 l0_0 x16_1).f2), .int .i64 ((rd_T115 l0_0 x16_1).f3)] 115 (0, 0)) qz64_ hg (Kd.R_ne HO_8.out BK106.out (by decide))); have n4_ := am_ (hb); have n5_ := am_ (ho); clear HO_1; clear HO_2; clear BK101; clear BK106; clear HB; clear HO_8; have HO_1 := n0_; have HO_2 := n1_; have BK101 := n2_; have BK106 := n3_; have HB := n4_; have HO136 := n5_; clear n0_ n1_ n2_ n3_ n4_ n5_; clear ho hb hg hat)))
               go_roundg k1
               case measure => have := HK1.out; omega
               case rel => exact ⟨(x1_1), (x2_1), (y134), (wrap64 (x16_1 + 1)), qz2_, H', ⟨qz3_⟩, ⟨by (with_reducible repeat (first | apply Kd.V_alloc | apply Kd.V_drewN | apply Kd.V_drew)); exact Kd.V_mono HO_1.out (fun _ hk => ⟨hk.1.1, ⟨hk.2, hk.1.2.1⟩⟩)⟩, ⟨by (with_reducible repeat (first | apply Kd.V_alloc | apply Kd.V_drewN | apply Kd.V_drew)); exact Kd.V_mono HO_2.out (fun _ hk => ⟨hk.1.1, ⟨hk.2, hk.1.2.1⟩⟩)⟩, ⟨(by (with_reducible repeat (first | apply Kd.R_alloc | apply Kd.R_drewN | apply Kd.R_drew)); exact HO136.out)⟩, ⟨qz11_⟩, ⟨qz23_⟩⟩
              ·
               rw [if_neg c53] at H
               exact absurd H (by simp)
             ·
              rw [if_neg c51] at H
              exact absurd H (by simp)
            ·
             rw [if_neg c50] at H
             exact absurd H (by simp)
           ·
            rw [if_neg c49] at H
            exact absurd H (by simp)
          ·
           rw [if_neg c48] at H
           exact absurd H (by simp)
         ·
          rw [if_neg c47] at H
          have c47b0 : (((rd_T115 l0_0 x16_1).f0) == 5) = false := beq_eq_false_iff_ne.mpr c47
          have c47b1 : (((rd_T115 l0_0 x16_1).f0) != 5) = true := bne_iff_ne.mpr c47
          by_cases c59 : ((rd_T115 l0_0 x16_1).f0) = 6
          ·
           rw [if_pos c59] at H
           have c59b0 : (((rd_T115 l0_0 x16_1).f0) == 6) = true := beq_iff_eq.mpr c59
           have c59b1 : (((rd_T115 l0_0 x16_1).f0) != 6) = false := bne_eq_false_iff_eq.mpr c59
           clear c59
           by_cases c60 : 0 ≤ ((rd_T115 l0_0 x16_1).f1)
           ·
            rw [if_pos c60] at H
            have c60b0 : decide (0 ≤ ((rd_T115 l0_0 x16_1).f1)) = true := decide_eq_true c60
            clear c60
            by_cases c61 : ((rd_T115 l0_0 x16_1).f1) < (x8_1.length : Int)
            ·
             rw [if_pos c61] at H
             have c61b0 : decide (((rd_T115 l0_0 x16_1).f1) < (x8_1.length : Int)) = true := decide_eq_true c61
             clear c61
             by_cases c62 : 0 ≤ ((rd_T115 l0_0 x16_1).f2)
             ·
              rw [if_pos c62] at H
              have c62b0 : decide (0 ≤ ((rd_T115 l0_0 x16_1).f2)) = true := decide_eq_true c62
              clear c62
              by_cases c63 : ((rd_T115 l0_0 x16_1).f2) < (x8_1.length : Int)
              ·
               rw [if_pos c63] at H
               have c63b0 : decide (((rd_T115 l0_0 x16_1).f2) < (x8_1.length : Int)) = true := decide_eq_true c63
               clear c63
               replace H := Option.bind_eq_some_iff.mp H
               obtain ⟨t139, A640, H⟩ := H
               replace H : (if x8_1.length < 17592186044416 then (impl_Circuit_run.l0 k1 x1_1 x2_1 (x8_1 ++ [t139]) l0_0 (l0_0.length : Int) (wrap64 (x16_1 + 1))) else (none)) = some (r1, r2) := H
               have A64 := am_ A640
               clear A640
               by_cases c65 : x8_1.length < 17592186044416
               ·
                rw [if_pos c65] at H
                have LMc65 := am_ c65
                clear c65
                obtain ⟨y140, hy140⟩ : ∃ y_ : List Int, y_ = (x8_1 ++ [t139]) := ⟨_, rfl⟩
                replace H : (impl_Circuit_run.l0 k1 x1_1 x2_1 y140 l0_0 (l0_0.length : Int) (wrap64 (x16_1 + 1))) = some (r1, r2) := by first | (rw [hy140]; with_reducible exact H) | (have H2_ := (Option.bind_some _ _).symm.trans H; rw [hy140]; with_reducible exact H2_) | (have H2_ := (Option.bind_some _ _).symm.trans H; with_reducible exact H2_) | with_reducible exact H | (rw [hy140]; exact H) | exact H
                have Ny140 := am_ hy140
                clear hy140
                have H' := am_ H
                clear H
                have p105 : 0 ≤ (x16_1 : Int) := of_decide_eq_true qz0_
                have q105 : x16_1 < (l0_0.length : Int) := of_decide_eq_true qz0_
                obtain ⟨ad105, e105, hx105_0, hx105_1, hx105_2, hx105_3⟩ := at_T115 HR0_0.out x16_1 p105 q105
                cases e105
                replace hx105_0 := (HB.out.cell (World.block_lt_of_cell? w _ hx105_0)).trans hx105_0
                replace hx105_1 := (HB.out.cell (World.block_lt_of_cell? w _ hx105_1)).trans hx105_1
                replace hx105_2 := (HB.out.cell (World.block_lt_of_cell? w _ hx105_2)).trans hx105_2
                replace hx105_3 := (HB.out.cell (World.block_lt_of_cell? w _ hx105_3)).trans hx105_3
                replace p105 := eq_true p105
                replace q105 := eq_true q105
                go_wp2_with (first | ((with_reducible refine gate_dst (N := 10) rfl ?_); refine box_event ?hg (N := 10) ?hd (cs := #[.int .i64 0, .int .i64 0, .int .i64 0, .int .i64 0]) (t := 115) ?hr ?_; (case hd => rfl); (case hg => rfl); (case hr => first | (go_simp; done) | (go_simp; rfl)); intro gb106 hg w66 hbox hb; have n0_ := am_ (Kd.V_below (Kd.V_elderB qz59_ gb106 (Nat.le_of_eq hg.symm)) hb); have n1_ := am_ (Kd.V_below (Kd.V_elderB qz60_ gb106 (Nat.le_of_eq hg.symm)) hb); have n2_ := am_ (Kd.R_below qz61_ hb); have n3_ := am_ (blk_below (g := gb101) (o := .cells #[.slice (some ad105) l0_0.length c0_0] 63 (0, 0)) qz11_ hb); have n4_ := am_ (below_step qz10_ hb); have n5_ := am_ (hbox); have n6_ := am_ ((by rw [hg]; exact (below_size qz10_) : w.heap.size ≤ gb106)); have n7_ := am_ ((by rw [hg]; exact (below_size qz10_) : w.heap.size ≤ gb106)); have n8_ := am_ ((by rw [hg]; exact Nat.ne_of_lt (blk_lt (g := gb101) (o := .cells #[.slice (some ad105) l0_0.length c0_0] 63 (0, 0)) qz11_) : gb101 ≠ gb106)); have n9_ := am_ ((by rw [hg]; exact Nat.ne_of_gt (blk_lt (g := gb101) (o := .cells #[.slice (some ad105) l0_0.length c0_0] 63 (0, 0)) qz11_) : gb106 ≠ gb101)); clear HO_1; clear HO_2; clear HO_8; clear BK101; clear HB; have HO_1 := n0_; have HO_2 := n1_; have HO_8 := n2_; have BK101 := n3_; have HB := n4_; have BK106 := n5_; have GW106 := n6_; have GE106 := n7_; have NB101_106 := n8_; have NB106_101 := n9_; clear n0_ n1_ n2_ n3_ n4_ n5_ n6_ n7_ n8_ n9_; clear hb hbox hg; have hnb67 := NB106_101.out; have hnc67 := NB101_106.out; have hcz68_0 : w66.cell? ⟨gb106, 0, none⟩ = some (.int .i64 0) := (blk_cell BK106.out 0).trans rfl; have hcz68_1 : w66.cell? ⟨gb106, 1, none⟩ = some (.int .i64 0) := (blk_cell BK106.out 1).trans rfl; have hcz68_2 : w66.cell? ⟨gb106, 2, none⟩ = some (.int .i64 0) := (blk_cell BK106.out 2).trans rfl; have hcz68_3 : w66.cell? ⟨gb106, 3, none⟩ = some (.int .i64 0) := (blk_cell BK106.out 3).trans rfl; have hfz68_0 := blk_frozen BK106.out 0; have hfz68_1 := blk_frozen BK106.out 1; have hfz68_2 := blk_frozen BK106.out 2; have hfz68_3 := blk_frozen BK106.out 3; obtain ⟨Ao69, co69, eo69⟩ := Kd.R_slice HO_8.out; subst eo69; have p137 : 0 ≤ (((rd_T115 l0_0 x16_1).f1) : Int) := of_decide_eq_true qz0_; have q137 : ((rd_T115 l0_0 x16_1).f1) < (x8_1.length : Int) := of_decide_eq_true qz0_; obtain ⟨ad137, e137, hx137_0⟩ := Kd.at_int (Kd.R_reads' HO_8.out).2.2 ((rd_T115 l0_0 x16_1).f1) p137 q137; cases e137; have hn137_0 : ad137.block ≠ gb106 := Kd.own_blk (Kd.R_ne HO_8.out BK106.out (by decide)); have hn137_1 : ad137.block ≠ gb106 := Kd.own_blk (Kd.R_ne HO_8.out BK106.out (by decide)); have hn137_2 : ad137.block ≠ gb106 := Kd.own_blk (Kd.R_ne HO_8.out BK106.out (by decide)); have hn137_3 : ad137.block ≠ gb106 := Kd.own_blk (Kd.R_ne HO_8.out BK106.out (by decide)); replace hx137_0 := (cell_far (p := ⟨gb106, 0, none⟩) (by first | (rw [add_block]; exact hn137_0) | (show (Addr.add _ _).block ≠ _; rw [add_block]; exact hn137_0) | exact hn137_0) (.int .i64 ((rd_T115 l0_0 x16_1).f0))).trans hx137_0; replace hx137_0 := (cell_far (p := ⟨gb106, 1, none⟩) (by first | (rw [add_block]; exact hn137_1) | (show (Addr.add _ _).block ≠ _; rw [add_block]; exact hn137_1) | exact hn137_1) (.int .i64 ((rd_T115 l0_0 x16_1).f1))).trans hx137_0; replace hx137_0 := (cell_far (p := ⟨gb106, 2, none⟩) (by first | (rw [add_block]; exact hn137_2) | (show (Addr.add _ _).block ≠ _; rw [add_block]; exact hn137_2) | exact hn137_2) (.int .i64 ((rd_T115 l0_0 x16_1).f2))).trans hx137_0; replace hx137_0 := (cell_far (p := ⟨gb106, 3, none⟩) (by first | (rw [add_block]; exact hn137_3) | (show (Addr.add _ _).block ≠ _; rw [add_block]; exact hn137_3) | exact hn137_3) (.int .i64 ((rd_T115 l0_0 x16_1).f3))).trans hx137_0; (try have hy137_0 := fun (n_ : Nat) => (show ((((((w66.drewN n_).setCell ⟨gb106, 0, none⟩ (.int .i64 ((rd_T115 l0_0 x16_1).f0))).setCell ⟨gb106, 1, none⟩ (.int .i64 ((rd_T115 l0_0 x16_1).f1))).setCell ⟨gb106, 2, none⟩ (.int .i64 ((rd_T115 l0_0 x16_1).f2))).setCell ⟨gb106, 3, none⟩ (.int .i64 ((rd_T115 l0_0 x16_1).f3)))).cell? _ = some _ from hx137_0)); clear hn137_0; clear hn137_1; clear hn137_2; clear hn137_3; replace p137 := eq_true p137; replace q137 := eq_true q137; have p138 : 0 ≤ (((rd_T115 l0_0 x16_1).f2) : Int) := of_decide_eq_true qz0_; have q138 : ((rd_T115 l0_0 x16_1).f2) < (x8_1.length : Int) := of_decide_eq_true qz0_; obtain ⟨ad138, e138, hx138_0⟩ := Kd.at_int (Kd.R_reads' HO_8.out).2.2 ((rd_T115 l0_0 x16_1).f2) p138 q138; obtain rfl : ad137 = ad138 := (by injection e138); have hn138_0 : ad137.block ≠ gb106 := Kd.own_blk (Kd.R_ne HO_8.out BK106.out (by decide)); have hn138_1 : ad137.block ≠ gb106 := Kd.own_blk (Kd.R_ne HO_8.out BK106.out (by decide)); have hn138_2 : ad137.block ≠ gb106 := Kd.own_blk (Kd.R_ne HO_8.out BK106.out (by decide)); have hn138_3 : ad137.block ≠ gb106 := Kd.own_blk (Kd.R_ne HO_8.out BK106.out (by decide)); replace hx138_0 := (cell_far (p := ⟨gb106, 0, none⟩) (by first | (rw [add_block]; exact hn138_0) | (show (Addr.add _ _).block ≠ _; rw [add_block]; exact hn138_0) | exact hn138_0) (.int .i64 ((rd_T115 l0_0 x16_1).f0))).trans hx138_0; replace hx138_0 := (cell_far (p := ⟨gb106, 1, none⟩) (by first | (rw [add_block]; exact hn138_1) | (show (Addr.add _ _).block ≠ _; rw [add_block]; exact hn138_1) | exact hn138_1) (.int .i64 ((rd_T115 l0_0 x16_1).f1))).trans hx138_0; replace hx138_0 := (cell_far (p := ⟨gb106, 2, none⟩) (by first | (rw [add_block]; exact hn138_2) | (show (Addr.add _ _).block ≠ _; rw [add_block]; exact hn138_2) | exact hn138_2) (.int .i64 ((rd_T115 l0_0 x16_1).f2))).trans hx138_0; replace hx138_0 := (cell_far (p := ⟨gb106, 3, none⟩) (by first | (rw [add_block]; exact hn138_3) | (show (Addr.add _ _).block ≠ _; rw [add_block]; exact hn138_3) | exact hn138_3) (.int .i64 ((rd_T115 l0_0 x16_1).f3))).trans hx138_0; (try have hy138_0 := fun (n_ : Nat) => (show ((((((w66.drewN n_).setCell ⟨gb106, 0, none⟩ (.int .i64 ((rd_T115 l0_0 x16_1).f0))).setCell ⟨gb106, 1, none⟩ (.int .i64 ((rd_T115 l0_0 x16_1).f1))).setCell ⟨gb106, 2, none⟩ (.int .i64 ((rd_T115 l0_0 x16_1).f2))).setCell ⟨gb106, 3, none⟩ (.int .i64 ((rd_T115 l0_0 x16_1).f3)))).cell? _ = some _ from hx138_0)); clear hn138_0; clear hn138_1; clear hn138_2; clear hn138_3; replace p138 := eq_true p138; replace q138 := eq_true q138) | (go_at_call 66; (with_reducible refine (impl_mul.calls (rd x8_1 ((rd_T115 l0_0 x16_1).f1)) (rd x8_1 ((rd_T115 l0_0 x16_1).f2)) t139 _ A64.out).mono ?_); rintro e w' ⟨rfl, ⟨nd, rfl⟩⟩; (try first | exact ⟨rfl, _, qd1_⟩ | exact ⟨rfl, _, qd2_⟩)) | ((with_reducible refine gate_builtin (b := .append) (xs := #[.tmp 106, .tmp 108]) rfl ?_); at_builtin; refine Kd.R_append (Kd.int .i64) (w0 := w) w.heap.size rfl (.tmp 106) (.tmp 108) 33 3 (.int .i64 0) 8 rfl Try.underlying33 info3 rfl (by decide) (by omega) (.slice (some ad137) x8_1.length co69) x8_1 t139 [.int .i64 t139] (fun k_ => (w.heap.size ≤ k_)) (fun _ => False) rfl qz22_ ?aP (fun _ hk => hk.elim) ?aF ?aO ?aB ?aS ?aL ?_; (case aP => exact rfl); (case aB => exact qz23_); (case aF => exact (fun k_ hk => (Nat.le_trans (below_size qz23_) hk))); (case aO => exact (by (with_reducible repeat (first | apply Kd.R_alloc | apply Kd.R_drewN | apply Kd.R_drew)); exact Kd.R_mono (Kd.R_far (p := ⟨gb106, 3, none⟩) (Kd.R_far (p := ⟨gb106, 2, none⟩) (Kd.R_far (p := ⟨gb106, 1, none⟩) (Kd.R_far (p := ⟨gb106, 0, none⟩) (Kd.R_types HO_8.out BK106.out (by decide)) (fun _ hk => hk.2) (.int .i64 ((rd_T115 l0_0 x16_1).f0))) (fun _ hk => hk.2) (.int .i64 ((rd_T115 l0_0 x16_1).f1))) (fun _ hk => hk.2) (.int .i64 ((rd_T115 l0_0 x16_1).f2))) (fun _ hk => hk.2) (.int .i64 ((rd_T115 l0_0 x16_1).f3))) (fun _ hk => hk.1))); (case aS => exact (below_size qz23_)); (case aL => have := LMc65.out; omega); intro v141 w70 ho hb hg hat; rw [← Ny140.out] at ho; have n0_ := am_ (Kd.V_afterv (ok := (fun k_ => ((P1_ k_ ∨ P2_ k_) ∨ w.heap.size ≤ k_) ∧ k_ ≠ gb101 ∧ k_ ≠ gb106)) qz68_ hg hat); have n1_ := am_ (Kd.V_afterv (ok := (fun k_ => ((P1_ k_ ∨ P2_ k_) ∨ w.heap.size ≤ k_) ∧ k_ ≠ gb101 ∧ k_ ≠ gb106)) qz69_ hg hat); have n2_ := am_ (blk_grown (g := gb101) (o := .cells #[.slice (some ad105) l0_0.length c0_0] 63 (0, 0)) qz24_ hg (Kd.R_ne HO_8.out BK101.out (by decide))); have n3_ := am_ (blk_grown (g := gb106) (o := .cells #[.int .i64 ((rd_T115 l0_0 x16_1).f0), .int .i64 ((rd_T115 l0_0 x16_1).f1), .int .i64 ((rd_T115 l0_0 x16_1).f2), .int .i64 ((rd_T115 l0_0 x16_1).f3)] 115 (0, 0)) qz64_ hg (Kd.R_ne HO_8.out BK106.out (by decide))); have n4_ := am_ (hb); have n5_ := am_ (ho); clear HO_1; clear HO_2; clear BK101; clear BK106; clear HB; clear HO_8; have HO_1 := n0_; have HO_2 := n1_; have BK101 := n2_; have BK106 := n3_; have HB := n4_; have HO142 := n5_; clear n0_ n1_ n2_ n3_ n4_ n5_; clear ho hb hg hat))
                repeat (go_quiet (first | (go_at_call 66; (with_reducible refine (impl_mul.calls (rd x8_1 ((rd_T115 l0_0 x16_1).f1)) (rd x8_1 ((rd_T115 l0_0 x16_1).f2)) t139 _ A64.out).mono ?_); rintro e w' ⟨rfl, ⟨nd, rfl⟩⟩; (try first | exact ⟨rfl, _, qd1_⟩ | exact ⟨rfl, _, qd2_⟩))); try go_wp2_with (first | ((with_reducible refine gate_dst (N := 10) rfl ?_); refine box_event ?hg (N := 10) ?hd (cs := #[.int .i64 0, .int .i64 0, .int .i64 0, .int .i64 0]) (t := 115) ?hr ?_; (case hd => rfl); (case hg => rfl); (case hr => first | (go_simp; done) | (go_simp; rfl)); intro gb106 hg w66 hbox hb; have n0_ := am_ (Kd.V_below (Kd.V_elderB qz59_ gb106 (Nat.le_of_eq hg.symm)) hb); have n1_ := am_ (Kd.V_below (Kd.V_elderB qz60_ gb106 (Nat.le_of_eq hg.symm)) hb); have n2_ := am_ (Kd.R_below qz61_ hb); have n3_ := am_ (blk_below (g := gb101) (o := .cells #[.slice (some ad105) l0_0.length c0_0] 63 (0, 0)) qz11_ hb); have n4_ := am_ (below_step qz10_ hb); have n5_ := am_ (hbox); have n6_ := am_ ((by rw [hg]; exact (below_size qz10_) : w.heap.size ≤ gb106)); have n7_ := am_ ((by rw [hg]; exact (below_size qz10_) : w.heap.size ≤ gb106)); have n8_ := am_ ((by rw [hg]; exact Nat.ne_of_lt (blk_lt (g := gb101) (o := .cells #[.slice (some ad105) l0_0.length c0_0] 63 (0, 0)) qz11_) : gb101 ≠ gb106)); have n9_ := am_ ((by rw [hg]; exact Nat.ne_of_gt (blk_lt (g := gb101) (o := .cells #[.slice (some ad105) l0_0.length c0_0] 63 (0, 0)) qz11_) : gb106 ≠ gb101)); clear HO_1; clear HO_2; clear HO_8; clear BK101; clear HB; have HO_1 := n0_; have HO_2 := n1_; have HO_8 := n2_; have BK101 := n3_; have HB := n4_; have BK106 := n5_; have GW106 := n6_; have GE106 := n7_; have NB101_106 := n8_; have NB106_101 := n9_; clear n0_ n1_ n2_ n3_ n4_ n5_ n6_ n7_ n8_ n9_; clear hb hbox hg; have hnb67 := NB106_101.out; have hnc67 := NB101_106.out; have hcz68_0 : w66.cell? ⟨gb106, 0, none⟩ = some (.int .i64 0) := (blk_cell BK106.out 0).trans rfl; have hcz68_1 : w66.cell? ⟨gb106, 1, none⟩ = some (.int .i64 0) := (blk_cell BK106.out 1).trans rfl; have hcz68_2 : w66.cell? ⟨gb106, 2, none⟩ = some (.int .i64 0) := (blk_cell BK106.out 2).trans rfl; have hcz68_3 : w66.cell? ⟨gb106, 3, none⟩ = some (.int .i64 0) := (blk_cell BK106.out 3).trans rfl; have hfz68_0 := blk_frozen BK106.out 0; have hfz68_1 := blk_frozen BK106.out 1; have hfz68_2 := blk_frozen BK106.out 2; have hfz68_3 := blk_frozen BK106.out 3; obtain ⟨Ao69, co69, eo69⟩ := Kd.R_slice HO_8.out; subst eo69; have p137 : 0 ≤ (((rd_T115 l0_0 x16_1).f1) : Int) := of_decide_eq_true qz0_; have q137 : ((rd_T115 l0_0 x16_1).f1) < (x8_1.length : Int) := of_decide_eq_true qz0_; obtain ⟨ad137, e137, hx137_0⟩ := Kd.at_int (Kd.R_reads' HO_8.out).2.2 ((rd_T115 l0_0 x16_1).f1) p137 q137; cases e137; have hn137_0 : ad137.block ≠ gb106 := Kd.own_blk (Kd.R_ne HO_8.out BK106.out (by decide)); have hn137_1 : ad137.block ≠ gb106 := Kd.own_blk (Kd.R_ne HO_8.out BK106.out (by decide)); have hn137_2 : ad137.block ≠ gb106 := Kd.own_blk (Kd.R_ne HO_8.out BK106.out (by decide)); have hn137_3 : ad137.block ≠ gb106 := Kd.own_blk (Kd.R_ne HO_8.out BK106.out (by decide)); replace hx137_0 := (cell_far (p := ⟨gb106, 0, none⟩) (by first | (rw [add_block]; exact hn137_0) | (show (Addr.add _ _).block ≠ _; rw [add_block]; exact hn137_0) | exact hn137_0) (.int .i64 ((rd_T115 l0_0 x16_1).f0))).trans hx137_0; replace hx137_0 := (cell_far (p := ⟨gb106, 1, none⟩) (by first | (rw [add_block]; exact hn137_1) | (show (Addr.add _ _).block ≠ _; rw [add_block]; exact hn137_1) | exact hn137_1) (.int .i64 ((rd_T115 l0_0 x16_1).f1))).trans hx137_0; replace hx137_0 := (cell_far (p := ⟨gb106, 2, none⟩) (by first | (rw [add_block]; exact hn137_2) | (show (Addr.add _ _).block ≠ _; rw [add_block]; exact hn137_2) | exact hn137_2) (.int .i64 ((rd_T115 l0_0 x16_1).f2))).trans hx137_0; replace hx137_0 := (cell_far (p := ⟨gb106, 3, none⟩) (by first | (rw [add_block]; exact hn137_3) | (show (Addr.add _ _).block ≠ _; rw [add_block]; exact hn137_3) | exact hn137_3) (.int .i64 ((rd_T115 l0_0 x16_1).f3))).trans hx137_0; (try have hy137_0 := fun (n_ : Nat) => (show ((((((w66.drewN n_).setCell ⟨gb106, 0, none⟩ (.int .i64 ((rd_T115 l0_0 x16_1).f0))).setCell ⟨gb106, 1, none⟩ (.int .i64 ((rd_T115 l0_0 x16_1).f1))).setCell ⟨gb106, 2, none⟩ (.int .i64 ((rd_T115 l0_0 x16_1).f2))).setCell ⟨gb106, 3, none⟩ (.int .i64 ((rd_T115 l0_0 x16_1).f3)))).cell? _ = some _ from hx137_0)); clear hn137_0; clear hn137_1; clear hn137_2; clear hn137_3; replace p137 := eq_true p137; replace q137 := eq_true q137; have p138 : 0 ≤ (((rd_T115 l0_0 x16_1).f2) : Int) := of_decide_eq_true qz0_; have q138 : ((rd_T115 l0_0 x16_1).f2) < (x8_1.length : Int) := of_decide_eq_true qz0_; obtain ⟨ad138, e138, hx138_0⟩ := Kd.at_int (Kd.R_reads' HO_8.out).2.2 ((rd_T115 l0_0 x16_1).f2) p138 q138; obtain rfl : ad137 = ad138 := (by injection e138); have hn138_0 : ad137.block ≠ gb106 := Kd.own_blk (Kd.R_ne HO_8.out BK106.out (by decide)); have hn138_1 : ad137.block ≠ gb106 := Kd.own_blk (Kd.R_ne HO_8.out BK106.out (by decide)); have hn138_2 : ad137.block ≠ gb106 := Kd.own_blk (Kd.R_ne HO_8.out BK106.out (by decide)); have hn138_3 : ad137.block ≠ gb106 := Kd.own_blk (Kd.R_ne HO_8.out BK106.out (by decide)); replace hx138_0 := (cell_far (p := ⟨gb106, 0, none⟩) (by first | (rw [add_block]; exact hn138_0) | (show (Addr.add _ _).block ≠ _; rw [add_block]; exact hn138_0) | exact hn138_0) (.int .i64 ((rd_T115 l0_0 x16_1).f0))).trans hx138_0; replace hx138_0 := (cell_far (p := ⟨gb106, 1, none⟩) (by first | (rw [add_block]; exact hn138_1) | (show (Addr.add _ _).block ≠ _; rw [add_block]; exact hn138_1) | exact hn138_1) (.int .i64 ((rd_T115 l0_0 x16_1).f1))).trans hx138_0; replace hx138_0 := (cell_far (p := ⟨gb106, 2, none⟩) (by first | (rw [add_block]; exact hn138_2) | (show (Addr.add _ _).block ≠ _; rw [add_block]; exact hn138_2) | exact hn138_2) (.int .i64 ((rd_T115 l0_0 x16_1).f2))).trans hx138_0; replace hx138_0 := (cell_far (p := ⟨gb106, 3, none⟩) (by first | (rw [add_block]; exact hn138_3) | (show (Addr.add _ _).block ≠ _; rw [add_block]; exact hn138_3) | exact hn138_3) (.int .i64 ((rd_T115 l0_0 x16_1).f3))).trans hx138_0; (try have hy138_0 := fun (n_ : Nat) => (show ((((((w66.drewN n_).setCell ⟨gb106, 0, none⟩ (.int .i64 ((rd_T115 l0_0 x16_1).f0))).setCell ⟨gb106, 1, none⟩ (.int .i64 ((rd_T115 l0_0 x16_1).f1))).setCell ⟨gb106, 2, none⟩ (.int .i64 ((rd_T115 l0_0 x16_1).f2))).setCell ⟨gb106, 3, none⟩ (.int .i64 ((rd_T115 l0_0 x16_1).f3)))).cell? _ = some _ from hx138_0)); clear hn138_0; clear hn138_1; clear hn138_2; clear hn138_3; replace p138 := eq_true p138; replace q138 := eq_true q138) | (go_at_call 66; (with_reducible refine (impl_mul.calls (rd x8_1 ((rd_T115 l0_0 x16_1).f1)) (rd x8_1 ((rd_T115 l0_0 x16_1).f2)) t139 _ A64.out).mono ?_); rintro e w' ⟨rfl, ⟨nd, rfl⟩⟩; (try first | exact ⟨rfl, _, qd1_⟩ | exact ⟨rfl, _, qd2_⟩)) | ((with_reducible refine gate_builtin (b := .append) (xs := #[.tmp 106, .tmp 108]) rfl ?_); at_builtin; refine Kd.R_append (Kd.int .i64) (w0 := w) w.heap.size rfl (.tmp 106) (.tmp 108) 33 3 (.int .i64 0) 8 rfl Try.underlying33 info3 rfl (by decide) (by omega) (.slice (some ad137) x8_1.length co69) x8_1 t139 [.int .i64 t139] (fun k_ => (w.heap.size ≤ k_)) (fun _ => False) rfl qz22_ ?aP (fun _ hk => hk.elim) ?aF ?aO ?aB ?aS ?aL ?_; (case aP => exact rfl); (case aB => exact qz23_); (case aF => exact (fun k_ hk => (Nat.le_trans (below_size qz23_) hk))); (case aO => exact (by (with_reducible repeat (first | apply Kd.R_alloc | apply Kd.R_drewN | apply Kd.R_drew)); exact Kd.R_mono (Kd.R_far (p := ⟨gb106, 3, none⟩) (Kd.R_far (p := ⟨gb106, 2, none⟩) (Kd.R_far (p := ⟨gb106, 1, none⟩) (Kd.R_far (p := ⟨gb106, 0, none⟩) (Kd.R_types HO_8.out BK106.out (by decide)) (fun _ hk => hk.2) (.int .i64 ((rd_T115 l0_0 x16_1).f0))) (fun _ hk => hk.2) (.int .i64 ((rd_T115 l0_0 x16_1).f1))) (fun _ hk => hk.2) (.int .i64 ((rd_T115 l0_0 x16_1).f2))) (fun _ hk => hk.2) (.int .i64 ((rd_T115 l0_0 x16_1).f3))) (fun _ hk => hk.1))); (case aS => exact (below_size qz23_)); (case aL => have := LMc65.out; omega); intro v141 w70 ho hb hg hat; rw [← Ny140.out] at ho; have n0_ := am_ (Kd.V_afterv (ok := (fun k_ => ((P1_ k_ ∨ P2_ k_) ∨ w.heap.size ≤ k_) ∧ k_ ≠ gb101 ∧ k_ ≠ gb106)) qz68_ hg hat); have n1_ := am_ (Kd.V_afterv (ok := (fun k_ => ((P1_ k_ ∨ P2_ k_) ∨ w.heap.size ≤ k_) ∧ k_ ≠ gb101 ∧ k_ ≠ gb106)) qz69_ hg hat); have n2_ := am_ (blk_grown (g := gb101) (o := .cells #[.slice (some ad105) l0_0.length c0_0] 63 (0, 0)) qz24_ hg (Kd.R_ne HO_8.out BK101.out (by decide))); have n3_ := am_ (blk_grown (g := gb106) (o := .cells #[.int .i64 ((rd_T115 l0_0 x16_1).f0), .int .i64 ((rd_T115 l0_0 x16_1).f1), .int .i64 ((rd_T115 l0_0 x16_1).f2), .int .i64 ((rd_T115 l0_0 x16_1).f3)] 115 (0, 0)) qz64_ hg (Kd.R_ne HO_8.out BK106.out (by decide))); have n4_ := am_ (hb); have n5_ := am_ (ho); clear HO_1; clear HO_2; clear BK101; clear BK106; clear HB; clear HO_8; have HO_1 := n0_; have HO_2 := n1_; have BK101 := n2_; have BK106 := n3_; have HB := n4_; have HO142 := n5_; clear n0_ n1_ n2_ n3_ n4_ n5_; clear ho hb hg hat)))
                go_roundg k1
                case measure => have := HK1.out; omega
                case rel => exact ⟨(x1_1), (x2_1), (y140), (wrap64 (x16_1 + 1)), qz2_, H', ⟨qz3_⟩, ⟨by (with_reducible repeat (first | apply Kd.V_alloc | apply Kd.V_drewN | apply Kd.V_drew)); exact Kd.V_mono HO_1.out (fun _ hk => ⟨hk.1.1, ⟨hk.2, hk.1.2.1⟩⟩)⟩, ⟨by (with_reducible repeat (first | apply Kd.V_alloc | apply Kd.V_drewN | apply Kd.V_drew)); exact Kd.V_mono HO_2.out (fun _ hk => ⟨hk.1.1, ⟨hk.2, hk.1.2.1⟩⟩)⟩, ⟨(by (with_reducible repeat (first | apply Kd.R_alloc | apply Kd.R_drewN | apply Kd.R_drew)); exact HO142.out)⟩, ⟨qz11_⟩, ⟨qz23_⟩⟩
               ·
                rw [if_neg c65] at H
                exact absurd H (by simp)
              ·
               rw [if_neg c63] at H
               exact absurd H (by simp)
             ·
              rw [if_neg c62] at H
              exact absurd H (by simp)
            ·
             rw [if_neg c61] at H
             exact absurd H (by simp)
           ·
            rw [if_neg c60] at H
            exact absurd H (by simp)
          ·
           rw [if_neg c59] at H
           have c59b0 : (((rd_T115 l0_0 x16_1).f0) == 6) = false := beq_eq_false_iff_ne.mpr c59
           have c59b1 : (((rd_T115 l0_0 x16_1).f0) != 6) = true := bne_iff_ne.mpr c59
           have HC71 := am_ H
           clear H
           have p105 : 0 ≤ (x16_1 : Int) := of_decide_eq_true qz0_
           have q105 : x16_1 < (l0_0.length : Int) := of_decide_eq_true qz0_
           obtain ⟨ad105, e105, hx105_0, hx105_1, hx105_2, hx105_3⟩ := at_T115 HR0_0.out x16_1 p105 q105
           cases e105
           replace hx105_0 := (HB.out.cell (World.block_lt_of_cell? w _ hx105_0)).trans hx105_0
           replace hx105_1 := (HB.out.cell (World.block_lt_of_cell? w _ hx105_1)).trans hx105_1
           replace hx105_2 := (HB.out.cell (World.block_lt_of_cell? w _ hx105_2)).trans hx105_2
           replace hx105_3 := (HB.out.cell (World.block_lt_of_cell? w _ hx105_3)).trans hx105_3
           replace p105 := eq_true p105
           replace q105 := eq_true q105
           go_upto_if 77 with (first | ((with_reducible refine gate_dst (N := 10) rfl ?_); refine box_event ?hg (N := 10) ?hd (cs := #[.int .i64 0, .int .i64 0, .int .i64 0, .int .i64 0]) (t := 115) ?hr ?_; (case hd => rfl); (case hg => rfl); (case hr => first | (go_simp; done) | (go_simp; rfl)); intro gb106 hg w72 hbox hb; have n0_ := am_ (Kd.V_below (Kd.V_elderB qz59_ gb106 (Nat.le_of_eq hg.symm)) hb); have n1_ := am_ (Kd.V_below (Kd.V_elderB qz60_ gb106 (Nat.le_of_eq hg.symm)) hb); have n2_ := am_ (Kd.R_below qz61_ hb); have n3_ := am_ (blk_below (g := gb101) (o := .cells #[.slice (some ad105) l0_0.length c0_0] 63 (0, 0)) qz11_ hb); have n4_ := am_ (below_step qz10_ hb); have n5_ := am_ (hbox); have n6_ := am_ ((by rw [hg]; exact (below_size qz10_) : w.heap.size ≤ gb106)); have n7_ := am_ ((by rw [hg]; exact (below_size qz10_) : w.heap.size ≤ gb106)); have n8_ := am_ ((by rw [hg]; exact Nat.ne_of_lt (blk_lt (g := gb101) (o := .cells #[.slice (some ad105) l0_0.length c0_0] 63 (0, 0)) qz11_) : gb101 ≠ gb106)); have n9_ := am_ ((by rw [hg]; exact Nat.ne_of_gt (blk_lt (g := gb101) (o := .cells #[.slice (some ad105) l0_0.length c0_0] 63 (0, 0)) qz11_) : gb106 ≠ gb101)); clear HO_1; clear HO_2; clear HO_8; clear BK101; clear HB; have HO_1 := n0_; have HO_2 := n1_; have HO_8 := n2_; have BK101 := n3_; have HB := n4_; have BK106 := n5_; have GW106 := n6_; have GE106 := n7_; have NB101_106 := n8_; have NB106_101 := n9_; clear n0_ n1_ n2_ n3_ n4_ n5_ n6_ n7_ n8_ n9_; clear hb hbox hg; have hnb73 := NB106_101.out; have hnc73 := NB101_106.out; have hcz74_0 : w72.cell? ⟨gb106, 0, none⟩ = some (.int .i64 0) := (blk_cell BK106.out 0).trans rfl; have hcz74_1 : w72.cell? ⟨gb106, 1, none⟩ = some (.int .i64 0) := (blk_cell BK106.out 1).trans rfl; have hcz74_2 : w72.cell? ⟨gb106, 2, none⟩ = some (.int .i64 0) := (blk_cell BK106.out 2).trans rfl; have hcz74_3 : w72.cell? ⟨gb106, 3, none⟩ = some (.int .i64 0) := (blk_cell BK106.out 3).trans rfl; have hfz74_0 := blk_frozen BK106.out 0; have hfz74_1 := blk_frozen BK106.out 1; have hfz74_2 := blk_frozen BK106.out 2; have hfz74_3 := blk_frozen BK106.out 3))
           repeat (go_quiet (fail); go_upto_if 77 with (first | ((with_reducible refine gate_dst (N := 10) rfl ?_); refine box_event ?hg (N := 10) ?hd (cs := #[.int .i64 0, .int .i64 0, .int .i64 0, .int .i64 0]) (t := 115) ?hr ?_; (case hd => rfl); (case hg => rfl); (case hr => first | (go_simp; done) | (go_simp; rfl)); intro gb106 hg w72 hbox hb; have n0_ := am_ (Kd.V_below (Kd.V_elderB qz59_ gb106 (Nat.le_of_eq hg.symm)) hb); have n1_ := am_ (Kd.V_below (Kd.V_elderB qz60_ gb106 (Nat.le_of_eq hg.symm)) hb); have n2_ := am_ (Kd.R_below qz61_ hb); have n3_ := am_ (blk_below (g := gb101) (o := .cells #[.slice (some ad105) l0_0.length c0_0] 63 (0, 0)) qz11_ hb); have n4_ := am_ (below_step qz10_ hb); have n5_ := am_ (hbox); have n6_ := am_ ((by rw [hg]; exact (below_size qz10_) : w.heap.size ≤ gb106)); have n7_ := am_ ((by rw [hg]; exact (below_size qz10_) : w.heap.size ≤ gb106)); have n8_ := am_ ((by rw [hg]; exact Nat.ne_of_lt (blk_lt (g := gb101) (o := .cells #[.slice (some ad105) l0_0.length c0_0] 63 (0, 0)) qz11_) : gb101 ≠ gb106)); have n9_ := am_ ((by rw [hg]; exact Nat.ne_of_gt (blk_lt (g := gb101) (o := .cells #[.slice (some ad105) l0_0.length c0_0] 63 (0, 0)) qz11_) : gb106 ≠ gb101)); clear HO_1; clear HO_2; clear HO_8; clear BK101; clear HB; have HO_1 := n0_; have HO_2 := n1_; have HO_8 := n2_; have BK101 := n3_; have HB := n4_; have BK106 := n5_; have GW106 := n6_; have GE106 := n7_; have NB101_106 := n8_; have NB106_101 := n9_; clear n0_ n1_ n2_ n3_ n4_ n5_ n6_ n7_ n8_ n9_; clear hb hbox hg; have hnb73 := NB106_101.out; have hnc73 := NB101_106.out; have hcz74_0 : w72.cell? ⟨gb106, 0, none⟩ = some (.int .i64 0) := (blk_cell BK106.out 0).trans rfl; have hcz74_1 : w72.cell? ⟨gb106, 1, none⟩ = some (.int .i64 0) := (blk_cell BK106.out 1).trans rfl; have hcz74_2 : w72.cell? ⟨gb106, 2, none⟩ = some (.int .i64 0) := (blk_cell BK106.out 2).trans rfl; have hcz74_3 : w72.cell? ⟨gb106, 3, none⟩ = some (.int .i64 0) := (blk_cell BK106.out 3).trans rfl; have hfz74_0 := blk_frozen BK106.out 0; have hfz74_1 := blk_frozen BK106.out 1; have hfz74_2 := blk_frozen BK106.out 2; have hfz74_3 := blk_frozen BK106.out 3)))
           (try simp only [Act.put, List.setIfInBounds_toArray, List.set_cons_zero, List.set_cons_succ])
           go_cut [77] (fun v77 wc => ∃ (kq : Nat) (x77_70 : Bool), v77 = .bool x77_70 ∧ Aside0 (impl_Circuit_run.j1 kq x1_1 x2_1 x8_1 ((rd_T115 l0_0 x16_1).f3) l0_0 (l0_0.length : Int) x16_1 x77_70 ((rd_T115 l0_0 x16_1).f0) ((rd_T115 l0_0 x16_1).f1) ((rd_T115 l0_0 x16_1).f2) ((rd_T115 l0_0 x16_1).f3) = some (r1, r2)) ∧ Aside0 (kq ≤ k1) ∧ Aside0 (Kd.V (Kd.int .i64) 3 wc w.heap.size (fun k_ => ((P1_ k_ ∨ P2_ k_) ∨ w.heap.size ≤ k_) ∧ some k_ ≠ (u8 : Value).ownBlock ∧ k_ ≠ gb101 ∧ k_ ≠ gb106) u1 x1_1) ∧ Aside0 (Kd.V (Kd.int .i64) 3 wc w.heap.size (fun k_ => ((P1_ k_ ∨ P2_ k_) ∨ w.heap.size ≤ k_) ∧ some k_ ≠ (u8 : Value).ownBlock ∧ k_ ≠ gb101 ∧ k_ ≠ gb106) u2 x2_1) ∧ Aside0 (Kd.R (Kd.int .i64) 3 wc w.heap.size (fun k_ => (w.heap.size ≤ k_)) u8 x8_1) ∧ Aside0 (wc.heap[gb101]? = some (.cells #[(.slice (some ad105) l0_0.length c0_0)] 63 (0, 0))) ∧ Aside0 (wc.heap[gb106]? = some (.cells #[.int .i64 ((rd_T115 l0_0 x16_1).f0), .int .i64 ((rd_T115 l0_0 x16_1).f1), .int .i64 ((rd_T115 l0_0 x16_1).f2), .int .i64 ((rd_T115 l0_0 x16_1).f3)] 115 (0, 0))) ∧ Aside0 (Below w.heap.size w wc))
           case first =>
            have H := HC71.out
            clear HC71
            by_cases c75 : ((rd_T115 l0_0 x16_1).f0) = 7
            ·
             rw [if_pos c75] at H
             have c75b0 : (((rd_T115 l0_0 x16_1).f0) == 7) = true := beq_iff_eq.mpr c75
             have c75b1 : (((rd_T115 l0_0 x16_1).f0) != 7) = false := bne_eq_false_iff_eq.mpr c75
             clear c75
             (first | rw [c75b0] | (simp only [i64_w, i32_w]; rw [c75b0]) | skip)
             have H' := am_ H
             clear H
             go_wp2
             repeat (go_quiet (fail); try go_wp2)
             go_meet
             case rel => exact ⟨_, ((((rd_T115 l0_0 x16_1).f0) == 7)), qz2_, H', ⟨(by have := HK1.out; first | omega | exact Nat.le_refl _)⟩, ⟨by (with_reducible repeat (first | apply Kd.V_alloc | apply Kd.V_drewN | apply Kd.V_drew)); exact Kd.V_mono (Kd.V_far (p := ⟨gb106, 3, none⟩) (Kd.V_far (p := ⟨gb106, 2, none⟩) (Kd.V_far (p := ⟨gb106, 1, none⟩) (Kd.V_far (p := ⟨gb106, 0, none⟩) (Kd.V_mono HO_1.out (fun k_ hk => (⟨hk, hk.2⟩ : _ ∧ k_ ≠ gb106))) (fun _ hk => hk.2) (.int .i64 ((rd_T115 l0_0 x16_1).f0))) (fun _ hk => hk.2) (.int .i64 ((rd_T115 l0_0 x16_1).f1))) (fun _ hk => hk.2) (.int .i64 ((rd_T115 l0_0 x16_1).f2))) (fun _ hk => hk.2) (.int .i64 ((rd_T115 l0_0 x16_1).f3))) (fun _ hk => ⟨hk.1.1.1, ⟨hk.1.1.2.1, ⟨hk.1.1.2.2, hk.1.2⟩⟩⟩)⟩, ⟨by (with_reducible repeat (first | apply Kd.V_alloc | apply Kd.V_drewN | apply Kd.V_drew)); exact Kd.V_mono (Kd.V_far (p := ⟨gb106, 3, none⟩) (Kd.V_far (p := ⟨gb106, 2, none⟩) (Kd.V_far (p := ⟨gb106, 1, none⟩) (Kd.V_far (p := ⟨gb106, 0, none⟩) (Kd.V_mono HO_2.out (fun k_ hk => (⟨hk, hk.2⟩ : _ ∧ k_ ≠ gb106))) (fun _ hk => hk.2) (.int .i64 ((rd_T115 l0_0 x16_1).f0))) (fun _ hk => hk.2) (.int .i64 ((rd_T115 l0_0 x16_1).f1))) (fun _ hk => hk.2) (.int .i64 ((rd_T115 l0_0 x16_1).f2))) (fun _ hk => hk.2) (.int .i64 ((rd_T115 l0_0 x16_1).f3))) (fun _ hk => ⟨hk.1.1.1, ⟨hk.1.1.2.1, ⟨hk.1.1.2.2, hk.1.2⟩⟩⟩)⟩, ⟨by (with_reducible repeat (first | apply Kd.R_alloc | apply Kd.R_drewN | apply Kd.R_drew)); exact Kd.R_mono (Kd.R_far (p := ⟨gb106, 3, none⟩) (Kd.R_far (p := ⟨gb106, 2, none⟩) (Kd.R_far (p := ⟨gb106, 1, none⟩) (Kd.R_far (p := ⟨gb106, 0, none⟩) (Kd.R_types HO_8.out BK106.out (by decide)) (fun _ hk => hk.2) (.int .i64 ((rd_T115 l0_0 x16_1).f0))) (fun _ hk => hk.2) (.int .i64 ((rd_T115 l0_0 x16_1).f1))) (fun _ hk => hk.2) (.int .i64 ((rd_T115 l0_0 x16_1).f2))) (fun _ hk => hk.2) (.int .i64 ((rd_T115 l0_0 x16_1).f3))) (fun _ hk => hk.1)⟩, ⟨qz24_⟩, ⟨qz64_⟩, ⟨qz23_⟩⟩
            ·
             rw [if_neg c75] at H
             have c75b0 : (((rd_T115 l0_0 x16_1).f0) == 7) = false := beq_eq_false_iff_ne.mpr c75
             have c75b1 : (((rd_T115 l0_0 x16_1).f0) != 7) = true := bne_iff_ne.mpr c75
             (first | rw [c75b0] | (simp only [i64_w, i32_w]; rw [c75b0]) | skip)
             have H' := am_ H
             clear H
             go_wp2
             repeat (go_quiet (fail); try go_wp2)
             go_meet
             case rel => exact ⟨_, ((((rd_T115 l0_0 x16_1).f0) == 8)), qz2_, H', ⟨(by have := HK1.out; first | omega | exact Nat.le_refl _)⟩, ⟨by (with_reducible repeat (first | apply Kd.V_alloc | apply Kd.V_drewN | apply Kd.V_drew)); exact Kd.V_mono (Kd.V_far (p := ⟨gb106, 3, none⟩) (Kd.V_far (p := ⟨gb106, 2, none⟩) (Kd.V_far (p := ⟨gb106, 1, none⟩) (Kd.V_far (p := ⟨gb106, 0, none⟩) (Kd.V_mono HO_1.out (fun k_ hk => (⟨hk, hk.2⟩ : _ ∧ k_ ≠ gb106))) (fun _ hk => hk.2) (.int .i64 ((rd_T115 l0_0 x16_1).f0))) (fun _ hk => hk.2) (.int .i64 ((rd_T115 l0_0 x16_1).f1))) (fun _ hk => hk.2) (.int .i64 ((rd_T115 l0_0 x16_1).f2))) (fun _ hk => hk.2) (.int .i64 ((rd_T115 l0_0 x16_1).f3))) (fun _ hk => ⟨hk.1.1.1, ⟨hk.1.1.2.1, ⟨hk.1.1.2.2, hk.1.2⟩⟩⟩)⟩, ⟨by (with_reducible repeat (first | apply Kd.V_alloc | apply Kd.V_drewN | apply Kd.V_drew)); exact Kd.V_mono (Kd.V_far (p := ⟨gb106, 3, none⟩) (Kd.V_far (p := ⟨gb106, 2, none⟩) (Kd.V_far (p := ⟨gb106, 1, none⟩) (Kd.V_far (p := ⟨gb106, 0, none⟩) (Kd.V_mono HO_2.out (fun k_ hk => (⟨hk, hk.2⟩ : _ ∧ k_ ≠ gb106))) (fun _ hk => hk.2) (.int .i64 ((rd_T115 l0_0 x16_1).f0))) (fun _ hk => hk.2) (.int .i64 ((rd_T115 l0_0 x16_1).f1))) (fun _ hk => hk.2) (.int .i64 ((rd_T115 l0_0 x16_1).f2))) (fun _ hk => hk.2) (.int .i64 ((rd_T115 l0_0 x16_1).f3))) (fun _ hk => ⟨hk.1.1.1, ⟨hk.1.1.2.1, ⟨hk.1.1.2.2, hk.1.2⟩⟩⟩)⟩, ⟨by (with_reducible repeat (first | apply Kd.R_alloc | apply Kd.R_drewN | apply Kd.R_drew)); exact Kd.R_mono (Kd.R_far (p := ⟨gb106, 3, none⟩) (Kd.R_far (p := ⟨gb106, 2, none⟩) (Kd.R_far (p := ⟨gb106, 1, none⟩) (Kd.R_far (p := ⟨gb106, 0, none⟩) (Kd.R_types HO_8.out BK106.out (by decide)) (fun _ hk => hk.2) (.int .i64 ((rd_T115 l0_0 x16_1).f0))) (fun _ hk => hk.2) (.int .i64 ((rd_T115 l0_0 x16_1).f1))) (fun _ hk => hk.2) (.int .i64 ((rd_T115 l0_0 x16_1).f2))) (fun _ hk => hk.2) (.int .i64 ((rd_T115 l0_0 x16_1).f3))) (fun _ hk => hk.1)⟩, ⟨qz24_⟩, ⟨qz64_⟩, ⟨qz23_⟩⟩
           case rest =>
            clear HC71
            (try clear c1); (try clear p1); (try clear q1); (try clear hx1); (try clear qi1); (try clear c2); (try clear p2); (try clear q2); (try clear c3); (try clear q3); (try clear c4); (try clear c5); (try clear c6); (try clear p6); (try clear c7); (try clear c8); (try clear c8b0); (try clear c9); (try clear c9b0); (try clear c10); (try clear c10b0); (try clear p10); (try clear q10)
            (try clear hx10); (try clear qi10); (try clear c11); (try clear c11b0); (try clear c11b1); (try clear p11); (try clear q11); (try clear hx11); (try clear qi11); (try clear c12); (try clear c12b0); (try clear c12b1); (try clear p12); (try clear q12); (try clear hx12); (try clear c13); (try clear c13b0); (try clear c13b1); (try clear p13); (try clear q13); (try clear hx13); (try clear c14)
            (try clear c16); (try clear c21); (try clear q21); (try clear c23); (try clear c23b0); (try clear c23b1); (try clear c24); (try clear c24b0); (try clear c24b1); (try clear c25); (try clear c25b0); (try clear c25b1); (try clear c26); (try clear c28); (try clear c33); (try clear q33); (try clear c35); (try clear c35b0); (try clear c35b1); (try clear c36); (try clear c36b0); (try clear c37)
            (try clear c37b0); (try clear c38); (try clear c38b0); (try clear c39); (try clear c39b0); (try clear c41); (try clear c43); (try clear c47); (try clear c47b0); (try clear c47b1); (try clear c48); (try clear c48b0); (try clear c49); (try clear c49b0); (try clear c50); (try clear c50b0); (try clear c51); (try clear c51b0); (try clear c53); (try clear c55); (try clear c59); (try clear c59b0)
            (try clear c59b1); (try clear c60); (try clear c60b0); (try clear c61); (try clear c61b0); (try clear c62); (try clear c62b0); (try clear c63); (try clear c63b0); (try clear p64); (try clear c65); (try clear c67); (try clear c73); (try clear c74); (try clear c75); (try clear c75b0); (try clear c75b1); (try clear hcz17_0); (try clear hcz17_1); (try clear hcz17_2); (try clear hcz17_3)
            (try clear hcz19_0); (try clear hcz19_1); (try clear hcz19_2); (try clear hcz19_3); (try clear hcz29_0); (try clear hcz29_1); (try clear hcz29_2); (try clear hcz29_3); (try clear hcz31_0); (try clear hcz31_1); (try clear hcz31_2); (try clear hcz31_3); (try clear hcz44_0); (try clear hcz44_1); (try clear hcz44_2); (try clear hcz44_3); (try clear hcz56_0); (try clear hcz56_1)
            (try clear hcz56_2); (try clear hcz56_3); (try clear hcz68_0); (try clear hcz68_1); (try clear hcz68_2); (try clear hcz68_3); (try clear hcz74_0); (try clear hcz74_1); (try clear hcz74_2); (try clear hcz74_3); (try clear hcz7_0); (try clear hfz17_0); (try clear hfz17_1); (try clear hfz17_2); (try clear hfz17_3); (try clear hfz19_0); (try clear hfz19_1); (try clear hfz19_2); (try clear hfz19_3)
            (try clear hfz29_0); (try clear hfz29_1); (try clear hfz29_2); (try clear hfz29_3); (try clear hfz31_0); (try clear hfz31_1); (try clear hfz31_2); (try clear hfz31_3); (try clear hfz44_0); (try clear hfz44_1); (try clear hfz44_2); (try clear hfz44_3); (try clear hfz56_0); (try clear hfz56_1); (try clear hfz56_2); (try clear hfz56_3); (try clear hfz68_0); (try clear hfz68_1)
            (try clear hfz68_2); (try clear hfz68_3); (try clear hfz74_0); (try clear hfz74_1); (try clear hfz74_2); (try clear hfz74_3); (try clear hfz7_0); (try clear hx105_0); (try clear hx105_1); (try clear hx105_2); (try clear hx105_3); (try clear hx107_0); (try clear hx116_0); (try clear hx125_0); (try clear hx126_0); (try clear hx131_0); (try clear hx132_0); (try clear hx137_0); (try clear hx138_0)
            (try clear p105); (try clear p107); (try clear p116); (try clear p125); (try clear p126); (try clear p131); (try clear p132); (try clear p137); (try clear p138); (try clear p2); (try clear q105); (try clear q107); (try clear q116); (try clear q125); (try clear q126); (try clear q131); (try clear q132); (try clear q137); (try clear q138); (try clear q21); (try clear q33)
            obtain ⟨kq, x77_70, rfl, HA, HJ70, HO_1, HO_2, HO_8, BK101, BK106, HB⟩ := hcut
            cases kq with
            | zero => exact absurd HA.out (by simp [impl_Circuit_run.j1])
            | succ kj70 =>
             have H := HA.out
             clear HA
             simp only [impl_Circuit_run.j1] at H
             by_cases c76 : x77_70 = true
             ·
              subst c76
              have H1 : (if 0 ≤ ((rd_T115 l0_0 x16_1).f1) then (if ((rd_T115 l0_0 x16_1).f1) < (x8_1.length : Int) then (if ((rd_T115 l0_0 x16_1).f0) = 7 then (if 0 ≤ ((rd_T115 l0_0 x16_1).f2) then (if ((rd_T115 l0_0 x16_1).f2) < (x8_1.length : Int) then (if (rd x8_1 ((rd_T115 l0_0 x16_1).f1)) = (rd x8_1 ((rd_T115 l0_0 x16_1).f2)) then (if ((rd_T115 l0_0 x16_1).f0) = 8 then (if (rd x8_1 ((rd_T115 l0_0 x16_1).f1)) > 1 then (some (([] : List Int), false)) else (if x8_1.length < 17592186044416 then (impl_Circuit_run.l0 kj70 x1_1 x2_1 (x8_1 ++ [rd x8_1 ((rd_T115 l0_0 x16_1).f1)]) l0_0 (l0_0.length : Int) (wrap64 (x16_1 + 1))) else (none))) else (if x8_1.length < 17592186044416 then (impl_Circuit_run.l0 kj70 x1_1 x2_1 (x8_1 ++ [rd x8_1 ((rd_T115 l0_0 x16_1).f1)]) l0_0 (l0_0.length : Int) (wrap64 (x16_1 + 1))) else (none))) else (some (([] : List Int), false))) else (none)) else (none)) else (if ((rd_T115 l0_0 x16_1).f0) = 8 then (if (rd x8_1 ((rd_T115 l0_0 x16_1).f1)) > 1 then (some (([] : List Int), false)) else (if x8_1.length < 17592186044416 then (impl_Circuit_run.l0 kj70 x1_1 x2_1 (x8_1 ++ [rd x8_1 ((rd_T115 l0_0 x16_1).f1)]) l0_0 (l0_0.length : Int) (wrap64 (x16_1 + 1))) else (none))) else (if x8_1.length < 17592186044416 then (impl_Circuit_run.l0 kj70 x1_1 x2_1 (x8_1 ++ [rd x8_1 ((rd_T115 l0_0 x16_1).f1)]) l0_0 (l0_0.length : Int) (wrap64 (x16_1 + 1))) else (none)))) else (none)) else (none)) = some (r1, r2) := by rw [if_pos rfl] at H; exact H
              clear H
              have H := H1
              clear H1
              by_cases c77 : 0 ≤ ((rd_T115 l0_0 x16_1).f1)
              ·
               rw [if_pos c77] at H
               have c77b0 : decide (0 ≤ ((rd_T115 l0_0 x16_1).f1)) = true := decide_eq_true c77
               clear c77
               by_cases c78 : ((rd_T115 l0_0 x16_1).f1) < (x8_1.length : Int)
               ·
                rw [if_pos c78] at H
                have c78b0 : decide (((rd_T115 l0_0 x16_1).f1) < (x8_1.length : Int)) = true := decide_eq_true c78
                clear c78
                by_cases c79 : ((rd_T115 l0_0 x16_1).f0) = 7
                ·
                 rw [if_pos c79] at H
                 have c79b0 : (((rd_T115 l0_0 x16_1).f0) == 7) = true := beq_iff_eq.mpr c79
                 have c79b1 : (((rd_T115 l0_0 x16_1).f0) != 7) = false := bne_eq_false_iff_eq.mpr c79
                 clear c79
                 by_cases c80 : 0 ≤ ((rd_T115 l0_0 x16_1).f2)
                 ·
                  rw [if_pos c80] at H
                  have c80b0 : decide (0 ≤ ((rd_T115 l0_0 x16_1).f2)) = true := decide_eq_true c80
                  clear c80
                  by_cases c81 : ((rd_T115 l0_0 x16_1).f2) < (x8_1.length : Int)
                  ·
                   rw [if_pos c81] at H
                   have c81b0 : decide (((rd_T115 l0_0 x16_1).f2) < (x8_1.length : Int)) = true := decide_eq_true c81
                   clear c81
                   by_cases c82 : (rd x8_1 ((rd_T115 l0_0 x16_1).f1)) = (rd x8_1 ((rd_T115 l0_0 x16_1).f2))
                   ·
                    rw [if_pos c82] at H
                    have c82b0 : ((rd x8_1 ((rd_T115 l0_0 x16_1).f1)) == (rd x8_1 ((rd_T115 l0_0 x16_1).f2))) = true := beq_iff_eq.mpr c82
                    have c82b1 : ((rd x8_1 ((rd_T115 l0_0 x16_1).f1)) != (rd x8_1 ((rd_T115 l0_0 x16_1).f2))) = false := bne_eq_false_iff_eq.mpr c82
                    clear c82
                    by_cases c83 : ((rd_T115 l0_0 x16_1).f0) = 8
                    ·
                     rw [if_pos c83] at H
                     have c83b0 : (((rd_T115 l0_0 x16_1).f0) == 8) = true := beq_iff_eq.mpr c83
                     have c83b1 : (((rd_T115 l0_0 x16_1).f0) != 8) = false := bne_eq_false_iff_eq.mpr c83
                     clear c83
                     by_cases c84 : (rd x8_1 ((rd_T115 l0_0 x16_1).f1)) > 1
                     ·
                      rw [if_pos c84] at H
                      have c84b0 : decide (1 < (rd x8_1 ((rd_T115 l0_0 x16_1).f1))) = true := decide_eq_true c84
                      clear c84
                      simp only [Option.some.injEq, Prod.mk.injEq] at H
                      obtain ⟨rfl, rfl⟩ := H
                      have hnb85 := NB106_101.out
                      have hnc85 := NB101_106.out
                      have hcz86_0 : wc.cell? ⟨gb106, 0, none⟩ = some (.int .i64 ((rd_T115 l0_0 x16_1).f0)) := (blk_cell BK106.out 0).trans rfl
                      have hcz86_1 : wc.cell? ⟨gb106, 1, none⟩ = some (.int .i64 ((rd_T115 l0_0 x16_1).f1)) := (blk_cell BK106.out 1).trans rfl
                      have hcz86_2 : wc.cell? ⟨gb106, 2, none⟩ = some (.int .i64 ((rd_T115 l0_0 x16_1).f2)) := (blk_cell BK106.out 2).trans rfl
                      have hcz86_3 : wc.cell? ⟨gb106, 3, none⟩ = some (.int .i64 ((rd_T115 l0_0 x16_1).f3)) := (blk_cell BK106.out 3).trans rfl
                      have hfz86_0 := blk_frozen BK106.out 0
                      have hfz86_1 := blk_frozen BK106.out 1
                      have hfz86_2 := blk_frozen BK106.out 2
                      have hfz86_3 := blk_frozen BK106.out 3
                      obtain ⟨Ao87, co87, eo87⟩ := Kd.R_slice HO_8.out
                      subst eo87
                      have p143 : 0 ≤ (((rd_T115 l0_0 x16_1).f1) : Int) := of_decide_eq_true qz0_
                      have q143 : ((rd_T115 l0_0 x16_1).f1) < (x8_1.length : Int) := of_decide_eq_true qz0_
                      obtain ⟨ad143, e143, hx143_0⟩ := Kd.at_int (Kd.R_reads' HO_8.out).2.2 ((rd_T115 l0_0 x16_1).f1) p143 q143
                      cases e143
                      replace p143 := eq_true p143
                      replace q143 := eq_true q143
                      have p144 : 0 ≤ (((rd_T115 l0_0 x16_1).f2) : Int) := of_decide_eq_true qz0_
                      have q144 : ((rd_T115 l0_0 x16_1).f2) < (x8_1.length : Int) := of_decide_eq_true qz0_
                      obtain ⟨ad144, e144, hx144_0⟩ := Kd.at_int (Kd.R_reads' HO_8.out).2.2 ((rd_T115 l0_0 x16_1).f2) p144 q144
                      obtain rfl : ad143 = ad144 := (by injection e144)
                      replace p144 := eq_true p144
                      replace q144 := eq_true q144
                      go_wp2
                      repeat (go_quiet (fail); try go_wp2)
                      go_ret2
                      exact ⟨_, qz5_, qz70_, qz23_⟩
                     ·
                      rw [if_neg c84] at H
                      have c84b0 : decide (1 < (rd x8_1 ((rd_T115 l0_0 x16_1).f1))) = false := decide_eq_false c84
                      clear c84
                      by_cases c88 : x8_1.length < 17592186044416
                      ·
                       rw [if_pos c88] at H
                       have LMc88 := am_ c88
                       clear c88
                       obtain ⟨y145, hy145⟩ : ∃ y_ : List Int, y_ = (x8_1 ++ [rd x8_1 ((rd_T115 l0_0 x16_1).f1)]) := ⟨_, rfl⟩
                       replace H : (impl_Circuit_run.l0 kj70 x1_1 x2_1 y145 l0_0 (l0_0.length : Int) (wrap64 (x16_1 + 1))) = some (r1, r2) := by first | (rw [hy145]; with_reducible exact H) | (have H2_ := (Option.bind_some _ _).symm.trans H; rw [hy145]; with_reducible exact H2_) | (have H2_ := (Option.bind_some _ _).symm.trans H; with_reducible exact H2_) | with_reducible exact H | (rw [hy145]; exact H) | exact H
                       have Ny145 := am_ hy145
                       clear hy145
                       have H' := am_ H
                       clear H
                       have hnb89 := NB106_101.out
                       have hnc89 := NB101_106.out
                       have hcz90_0 : wc.cell? ⟨gb106, 0, none⟩ = some (.int .i64 ((rd_T115 l0_0 x16_1).f0)) := (blk_cell BK106.out 0).trans rfl
                       have hcz90_1 : wc.cell? ⟨gb106, 1, none⟩ = some (.int .i64 ((rd_T115 l0_0 x16_1).f1)) := (blk_cell BK106.out 1).trans rfl
                       have hcz90_2 : wc.cell? ⟨gb106, 2, none⟩ = some (.int .i64 ((rd_T115 l0_0 x16_1).f2)) := (blk_cell BK106.out 2).trans rfl
                       have hcz90_3 : wc.cell? ⟨gb106, 3, none⟩ = some (.int .i64 ((rd_T115 l0_0 x16_1).f3)) := (blk_cell BK106.out 3).trans rfl
                       have hfz90_0 := blk_frozen BK106.out 0
                       have hfz90_1 := blk_frozen BK106.out 1
                       have hfz90_2 := blk_frozen BK106.out 2
                       have hfz90_3 := blk_frozen BK106.out 3
                       obtain ⟨Ao91, co91, eo91⟩ := Kd.R_slice HO_8.out
                       subst eo91
                       have p143 : 0 ≤ (((rd_T115 l0_0 x16_1).f1) : Int) := of_decide_eq_true qz0_
                       have q143 : ((rd_T115 l0_0 x16_1).f1) < (x8_1.length : Int) := of_decide_eq_true qz0_
                       obtain ⟨ad143, e143, hx143_0⟩ := Kd.at_int (Kd.R_reads' HO_8.out).2.2 ((rd_T115 l0_0 x16_1).f1) p143 q143
                       cases e143
                       replace p143 := eq_true p143
                       replace q143 := eq_true q143
                       have p144 : 0 ≤ (((rd_T115 l0_0 x16_1).f2) : Int) := of_decide_eq_true qz0_
                       have q144 : ((rd_T115 l0_0 x16_1).f2) < (x8_1.length : Int) := of_decide_eq_true qz0_
                       obtain ⟨ad144, e144, hx144_0⟩ := Kd.at_int (Kd.R_reads' HO_8.out).2.2 ((rd_T115 l0_0 x16_1).f2) p144 q144
                       obtain rfl : ad143 = ad144 := (by injection e144)
                       replace p144 := eq_true p144
                       replace q144 := eq_true q144
                       go_wp2_with (first | ((with_reducible refine gate_builtin (b := .append) (xs := #[.tmp 106, .tmp 108]) rfl ?_); at_builtin; refine Kd.R_append (Kd.int .i64) (w0 := w) w.heap.size rfl (.tmp 106) (.tmp 108) 33 3 (.int .i64 0) 8 rfl Try.underlying33 info3 rfl (by decide) (by omega) (.slice (some ad143) x8_1.length co91) x8_1 (rd x8_1 ((rd_T115 l0_0 x16_1).f1)) [.int .i64 (rd x8_1 ((rd_T115 l0_0 x16_1).f1))] (fun k_ => (w.heap.size ≤ k_)) (fun _ => False) rfl rfl ?aP (fun _ hk => hk.elim) ?aF ?aO ?aB ?aS ?aL ?_; (case aP => exact rfl); (case aB => exact qz23_); (case aF => exact (fun k_ hk => (Nat.le_trans (below_size qz23_) hk))); (case aO => exact qz61_); (case aS => exact (below_size qz23_)); (case aL => have := LMc88.out; omega); intro v146 w92 ho hb hg hat; rw [← Ny145.out] at ho; have n0_ := am_ (Kd.V_afterv (ok := (fun k_ => ((P1_ k_ ∨ P2_ k_) ∨ w.heap.size ≤ k_) ∧ k_ ≠ gb101 ∧ k_ ≠ gb106)) qz65_ hg hat); have n1_ := am_ (Kd.V_afterv (ok := (fun k_ => ((P1_ k_ ∨ P2_ k_) ∨ w.heap.size ≤ k_) ∧ k_ ≠ gb101 ∧ k_ ≠ gb106)) qz66_ hg hat); have n2_ := am_ (blk_grown (g := gb101) (o := .cells #[.slice (some ad105) l0_0.length c0_0] 63 (0, 0)) qz11_ hg (Kd.R_ne HO_8.out BK101.out (by decide))); have n3_ := am_ (blk_grown (g := gb106) (o := .cells #[.int .i64 ((rd_T115 l0_0 x16_1).f0), .int .i64 ((rd_T115 l0_0 x16_1).f1), .int .i64 ((rd_T115 l0_0 x16_1).f2), .int .i64 ((rd_T115 l0_0 x16_1).f3)] 115 (0, 0)) qz67_ hg (Kd.R_ne HO_8.out BK106.out (by decide))); have n4_ := am_ (hb); have n5_ := am_ (ho); clear HO_1; clear HO_2; clear BK101; clear BK106; clear HB; clear HO_8; have HO_1 := n0_; have HO_2 := n1_; have BK101 := n2_; have BK106 := n3_; have HB := n4_; have HO147 := n5_; clear n0_ n1_ n2_ n3_ n4_ n5_; clear ho hb hg hat))
                       repeat (go_quiet (fail); try go_wp2_with (first | ((with_reducible refine gate_builtin (b := .append) (xs := #[.tmp 106, .tmp 108]) rfl ?_); at_builtin; refine Kd.R_append (Kd.int .i64) (w0 := w) w.heap.size rfl (.tmp 106) (.tmp 108) 33 3 (.int .i64 0) 8 rfl Try.underlying33 info3 rfl (by decide) (by omega) (.slice (some ad143) x8_1.length co91) x8_1 (rd x8_1 ((rd_T115 l0_0 x16_1).f1)) [.int .i64 (rd x8_1 ((rd_T115 l0_0 x16_1).f1))] (fun k_ => (w.heap.size ≤ k_)) (fun _ => False) rfl rfl ?aP (fun _ hk => hk.elim) ?aF ?aO ?aB ?aS ?aL ?_; (case aP => exact rfl); (case aB => exact qz23_); (case aF => exact (fun k_ hk => (Nat.le_trans (below_size qz23_) hk))); (case aO => exact qz61_); (case aS => exact (below_size qz23_)); (case aL => have := LMc88.out; omega); intro v146 w92 ho hb hg hat; rw [← Ny145.out] at ho; have n0_ := am_ (Kd.V_afterv (ok := (fun k_ => ((P1_ k_ ∨ P2_ k_) ∨ w.heap.size ≤ k_) ∧ k_ ≠ gb101 ∧ k_ ≠ gb106)) qz65_ hg hat); have n1_ := am_ (Kd.V_afterv (ok := (fun k_ => ((P1_ k_ ∨ P2_ k_) ∨ w.heap.size ≤ k_) ∧ k_ ≠ gb101 ∧ k_ ≠ gb106)) qz66_ hg hat); have n2_ := am_ (blk_grown (g := gb101) (o := .cells #[.slice (some ad105) l0_0.length c0_0] 63 (0, 0)) qz11_ hg (Kd.R_ne HO_8.out BK101.out (by decide))); have n3_ := am_ (blk_grown (g := gb106) (o := .cells #[.int .i64 ((rd_T115 l0_0 x16_1).f0), .int .i64 ((rd_T115 l0_0 x16_1).f1), .int .i64 ((rd_T115 l0_0 x16_1).f2), .int .i64 ((rd_T115 l0_0 x16_1).f3)] 115 (0, 0)) qz67_ hg (Kd.R_ne HO_8.out BK106.out (by decide))); have n4_ := am_ (hb); have n5_ := am_ (ho); clear HO_1; clear HO_2; clear BK101; clear BK106; clear HB; clear HO_8; have HO_1 := n0_; have HO_2 := n1_; have BK101 := n2_; have BK106 := n3_; have HB := n4_; have HO147 := n5_; clear n0_ n1_ n2_ n3_ n4_ n5_; clear ho hb hg hat)))
                       go_roundg kj70
                       case measure => have := HK1.out; have := HJ70.out; omega
                       case rel => exact ⟨(x1_1), (x2_1), (y145), (wrap64 (x16_1 + 1)), qz2_, H', ⟨(by have := HK1.out; have := HJ70.out; omega)⟩, ⟨by (with_reducible repeat (first | apply Kd.V_alloc | apply Kd.V_drewN | apply Kd.V_drew)); exact Kd.V_mono HO_1.out (fun _ hk => ⟨hk.1.1, ⟨hk.2, hk.1.2.1⟩⟩)⟩, ⟨by (with_reducible repeat (first | apply Kd.V_alloc | apply Kd.V_drewN | apply Kd.V_drew)); exact Kd.V_mono HO_2.out (fun _ hk => ⟨hk.1.1, ⟨hk.2, hk.1.2.1⟩⟩)⟩, ⟨(by (with_reducible repeat (first | apply Kd.R_alloc | apply Kd.R_drewN | apply Kd.R_drew)); exact HO147.out)⟩, ⟨qz11_⟩, ⟨qz23_⟩⟩
                      ·
                       rw [if_neg c88] at H
                       exact absurd H (by simp)
                    ·
                     rw [if_neg c83] at H
                     have c83b0 : (((rd_T115 l0_0 x16_1).f0) == 8) = false := beq_eq_false_iff_ne.mpr c83
                     have c83b1 : (((rd_T115 l0_0 x16_1).f0) != 8) = true := bne_iff_ne.mpr c83
                     by_cases c93 : x8_1.length < 17592186044416
                     ·
                      rw [if_pos c93] at H
                      have LMc93 := am_ c93
                      clear c93
                      obtain ⟨y148, hy148⟩ : ∃ y_ : List Int, y_ = (x8_1 ++ [rd x8_1 ((rd_T115 l0_0 x16_1).f1)]) := ⟨_, rfl⟩
                      replace H : (impl_Circuit_run.l0 kj70 x1_1 x2_1 y148 l0_0 (l0_0.length : Int) (wrap64 (x16_1 + 1))) = some (r1, r2) := by first | (rw [hy148]; with_reducible exact H) | (have H2_ := (Option.bind_some _ _).symm.trans H; rw [hy148]; with_reducible exact H2_) | (have H2_ := (Option.bind_some _ _).symm.trans H; with_reducible exact H2_) | with_reducible exact H | (rw [hy148]; exact H) | exact H
                      have Ny148 := am_ hy148
                      clear hy148
                      have H' := am_ H
                      clear H
                      have hnb94 := NB106_101.out
                      have hnc94 := NB101_106.out
                      have hcz95_0 : wc.cell? ⟨gb106, 0, none⟩ = some (.int .i64 ((rd_T115 l0_0 x16_1).f0)) := (blk_cell BK106.out 0).trans rfl
                      have hcz95_1 : wc.cell? ⟨gb106, 1, none⟩ = some (.int .i64 ((rd_T115 l0_0 x16_1).f1)) := (blk_cell BK106.out 1).trans rfl
                      have hcz95_2 : wc.cell? ⟨gb106, 2, none⟩ = some (.int .i64 ((rd_T115 l0_0 x16_1).f2)) := (blk_cell BK106.out 2).trans rfl
                      have hcz95_3 : wc.cell? ⟨gb106, 3, none⟩ = some (.int .i64 ((rd_T115 l0_0 x16_1).f3)) := (blk_cell BK106.out 3).trans rfl
                      have hfz95_0 := blk_frozen BK106.out 0
                      have hfz95_1 := blk_frozen BK106.out 1
                      have hfz95_2 := blk_frozen BK106.out 2
                      have hfz95_3 := blk_frozen BK106.out 3
                      obtain ⟨Ao96, co96, eo96⟩ := Kd.R_slice HO_8.out
                      subst eo96
                      have p143 : 0 ≤ (((rd_T115 l0_0 x16_1).f1) : Int) := of_decide_eq_true qz0_
                      have q143 : ((rd_T115 l0_0 x16_1).f1) < (x8_1.length : Int) := of_decide_eq_true qz0_
                      obtain ⟨ad143, e143, hx143_0⟩ := Kd.at_int (Kd.R_reads' HO_8.out).2.2 ((rd_T115 l0_0 x16_1).f1) p143 q143
                      cases e143
                      replace p143 := eq_true p143
                      replace q143 := eq_true q143
                      have p144 : 0 ≤ (((rd_T115 l0_0 x16_1).f2) : Int) := of_decide_eq_true qz0_
                      have q144 : ((rd_T115 l0_0 x16_1).f2) < (x8_1.length : Int) := of_decide_eq_true qz0_
                      obtain ⟨ad144, e144, hx144_0⟩ := Kd.at_int (Kd.R_reads' HO_8.out).2.2 ((rd_T115 l0_0 x16_1).f2) p144 q144
                      obtain rfl : ad143 = ad144 := (by injection e144)
                      replace p144 := eq_true p144
                      replace q144 := eq_true q144
                      go_wp2_with (first | ((with_reducible refine gate_builtin (b := .append) (xs := #[.tmp 106, .tmp 108]) rfl ?_); at_builtin; refine Kd.R_append (Kd.int .i64) (w0 := w) w.heap.size rfl (.tmp 106) (.tmp 108) 33 3 (.int .i64 0) 8 rfl Try.underlying33 info3 rfl (by decide) (by omega) (.slice (some ad143) x8_1.length co96) x8_1 (rd x8_1 ((rd_T115 l0_0 x16_1).f1)) [.int .i64 (rd x8_1 ((rd_T115 l0_0 x16_1).f1))] (fun k_ => (w.heap.size ≤ k_)) (fun _ => False) rfl rfl ?aP (fun _ hk => hk.elim) ?aF ?aO ?aB ?aS ?aL ?_; (case aP => exact rfl); (case aB => exact qz23_); (case aF => exact (fun k_ hk => (Nat.le_trans (below_size qz23_) hk))); (case aO => exact qz61_); (case aS => exact (below_size qz23_)); (case aL => have := LMc93.out; omega); intro v149 w97 ho hb hg hat; rw [← Ny148.out] at ho; have n0_ := am_ (Kd.V_afterv (ok := (fun k_ => ((P1_ k_ ∨ P2_ k_) ∨ w.heap.size ≤ k_) ∧ k_ ≠ gb101 ∧ k_ ≠ gb106)) qz65_ hg hat); have n1_ := am_ (Kd.V_afterv (ok := (fun k_ => ((P1_ k_ ∨ P2_ k_) ∨ w.heap.size ≤ k_) ∧ k_ ≠ gb101 ∧ k_ ≠ gb106)) qz66_ hg hat); have n2_ := am_ (blk_grown (g := gb101) (o := .cells #[.slice (some ad105) l0_0.length c0_0] 63 (0, 0)) qz11_ hg (Kd.R_ne HO_8.out BK101.out (by decide))); have n3_ := am_ (blk_grown (g := gb106) (o := .cells #[.int .i64 ((rd_T115 l0_0 x16_1).f0), .int .i64 ((rd_T115 l0_0 x16_1).f1), .int .i64 ((rd_T115 l0_0 x16_1).f2), .int .i64 ((rd_T115 l0_0 x16_1).f3)] 115 (0, 0)) qz67_ hg (Kd.R_ne HO_8.out BK106.out (by decide))); have n4_ := am_ (hb); have n5_ := am_ (ho); clear HO_1; clear HO_2; clear BK101; clear BK106; clear HB; clear HO_8; have HO_1 := n0_; have HO_2 := n1_; have BK101 := n2_; have BK106 := n3_; have HB := n4_; have HO150 := n5_; clear n0_ n1_ n2_ n3_ n4_ n5_; clear ho hb hg hat))
                      repeat (go_quiet (fail); try go_wp2_with (first | ((with_reducible refine gate_builtin (b := .append) (xs := #[.tmp 106, .tmp 108]) rfl ?_); at_builtin; refine Kd.R_append (Kd.int .i64) (w0 := w) w.heap.size rfl (.tmp 106) (.tmp 108) 33 3 (.int .i64 0) 8 rfl Try.underlying33 info3 rfl (by decide) (by omega) (.slice (some ad143) x8_1.length co96) x8_1 (rd x8_1 ((rd_T115 l0_0 x16_1).f1)) [.int .i64 (rd x8_1 ((rd_T115 l0_0 x16_1).f1))] (fun k_ => (w.heap.size ≤ k_)) (fun _ => False) rfl rfl ?aP (fun _ hk => hk.elim) ?aF ?aO ?aB ?aS ?aL ?_; (case aP => exact rfl); (case aB => exact qz23_); (case aF => exact (fun k_ hk => (Nat.le_trans (below_size qz23_) hk))); (case aO => exact qz61_); (case aS => exact (below_size qz23_)); (case aL => have := LMc93.out; omega); intro v149 w97 ho hb hg hat; rw [← Ny148.out] at ho; have n0_ := am_ (Kd.V_afterv (ok := (fun k_ => ((P1_ k_ ∨ P2_ k_) ∨ w.heap.size ≤ k_) ∧ k_ ≠ gb101 ∧ k_ ≠ gb106)) qz65_ hg hat); have n1_ := am_ (Kd.V_afterv (ok := (fun k_ => ((P1_ k_ ∨ P2_ k_) ∨ w.heap.size ≤ k_) ∧ k_ ≠ gb101 ∧ k_ ≠ gb106)) qz66_ hg hat); have n2_ := am_ (blk_grown (g := gb101) (o := .cells #[.slice (some ad105) l0_0.length c0_0] 63 (0, 0)) qz11_ hg (Kd.R_ne HO_8.out BK101.out (by decide))); have n3_ := am_ (blk_grown (g := gb106) (o := .cells #[.int .i64 ((rd_T115 l0_0 x16_1).f0), .int .i64 ((rd_T115 l0_0 x16_1).f1), .int .i64 ((rd_T115 l0_0 x16_1).f2), .int .i64 ((rd_T115 l0_0 x16_1).f3)] 115 (0, 0)) qz67_ hg (Kd.R_ne HO_8.out BK106.out (by decide))); have n4_ := am_ (hb); have n5_ := am_ (ho); clear HO_1; clear HO_2; clear BK101; clear BK106; clear HB; clear HO_8; have HO_1 := n0_; have HO_2 := n1_; have BK101 := n2_; have BK106 := n3_; have HB := n4_; have HO150 := n5_; clear n0_ n1_ n2_ n3_ n4_ n5_; clear ho hb hg hat)))
                      go_roundg kj70
                      case measure => have := HK1.out; have := HJ70.out; omega
                      case rel => exact ⟨(x1_1), (x2_1), (y148), (wrap64 (x16_1 + 1)), qz2_, H', ⟨(by have := HK1.out; have := HJ70.out; omega)⟩, ⟨by (with_reducible repeat (first | apply Kd.V_alloc | apply Kd.V_drewN | apply Kd.V_drew)); exact Kd.V_mono HO_1.out (fun _ hk => ⟨hk.1.1, ⟨hk.2, hk.1.2.1⟩⟩)⟩, ⟨by (with_reducible repeat (first | apply Kd.V_alloc | apply Kd.V_drewN | apply Kd.V_drew)); exact Kd.V_mono HO_2.out (fun _ hk => ⟨hk.1.1, ⟨hk.2, hk.1.2.1⟩⟩)⟩, ⟨(by (with_reducible repeat (first | apply Kd.R_alloc | apply Kd.R_drewN | apply Kd.R_drew)); exact HO150.out)⟩, ⟨qz11_⟩, ⟨qz23_⟩⟩
                     ·
                      rw [if_neg c93] at H
                      exact absurd H (by simp)
                   ·
                    rw [if_neg c82] at H
                    have c82b0 : ((rd x8_1 ((rd_T115 l0_0 x16_1).f1)) == (rd x8_1 ((rd_T115 l0_0 x16_1).f2))) = false := beq_eq_false_iff_ne.mpr c82
                    have c82b1 : ((rd x8_1 ((rd_T115 l0_0 x16_1).f1)) != (rd x8_1 ((rd_T115 l0_0 x16_1).f2))) = true := bne_iff_ne.mpr c82
                    simp only [Option.some.injEq, Prod.mk.injEq] at H
                    obtain ⟨rfl, rfl⟩ := H
                    have hnb98 := NB106_101.out
                    have hnc98 := NB101_106.out
                    have hcz99_0 : wc.cell? ⟨gb106, 0, none⟩ = some (.int .i64 ((rd_T115 l0_0 x16_1).f0)) := (blk_cell BK106.out 0).trans rfl
                    have hcz99_1 : wc.cell? ⟨gb106, 1, none⟩ = some (.int .i64 ((rd_T115 l0_0 x16_1).f1)) := (blk_cell BK106.out 1).trans rfl
                    have hcz99_2 : wc.cell? ⟨gb106, 2, none⟩ = some (.int .i64 ((rd_T115 l0_0 x16_1).f2)) := (blk_cell BK106.out 2).trans rfl
                    have hcz99_3 : wc.cell? ⟨gb106, 3, none⟩ = some (.int .i64 ((rd_T115 l0_0 x16_1).f3)) := (blk_cell BK106.out 3).trans rfl
                    have hfz99_0 := blk_frozen BK106.out 0
                    have hfz99_1 := blk_frozen BK106.out 1
                    have hfz99_2 := blk_frozen BK106.out 2
                    have hfz99_3 := blk_frozen BK106.out 3
                    obtain ⟨Ao100, co100, eo100⟩ := Kd.R_slice HO_8.out
                    subst eo100
                    have p143 : 0 ≤ (((rd_T115 l0_0 x16_1).f1) : Int) := of_decide_eq_true qz0_
                    have q143 : ((rd_T115 l0_0 x16_1).f1) < (x8_1.length : Int) := of_decide_eq_true qz0_
                    obtain ⟨ad143, e143, hx143_0⟩ := Kd.at_int (Kd.R_reads' HO_8.out).2.2 ((rd_T115 l0_0 x16_1).f1) p143 q143
                    cases e143
                    replace p143 := eq_true p143
                    replace q143 := eq_true q143
                    have p144 : 0 ≤ (((rd_T115 l0_0 x16_1).f2) : Int) := of_decide_eq_true qz0_
                    have q144 : ((rd_T115 l0_0 x16_1).f2) < (x8_1.length : Int) := of_decide_eq_true qz0_
                    obtain ⟨ad144, e144, hx144_0⟩ := Kd.at_int (Kd.R_reads' HO_8.out).2.2 ((rd_T115 l0_0 x16_1).f2) p144 q144
                    obtain rfl : ad143 = ad144 := (by injection e144)
                    replace p144 := eq_true p144
                    replace q144 := eq_true q144
                    go_wp2
                    repeat (go_quiet (fail); try go_wp2)
                    go_ret2
                    exact ⟨_, qz5_, qz70_, qz23_⟩
                  ·
                   rw [if_neg c81] at H
                   exact absurd H (by simp)
                 ·
                  rw [if_neg c80] at H
                  exact absurd H (by simp)
                ·
                 rw [if_neg c79] at H
                 have c79b0 : (((rd_T115 l0_0 x16_1).f0) == 7) = false := beq_eq_false_iff_ne.mpr c79
                 have c79b1 : (((rd_T115 l0_0 x16_1).f0) != 7) = true := bne_iff_ne.mpr c79
                 by_cases c101 : ((rd_T115 l0_0 x16_1).f0) = 8
                 ·
                  rw [if_pos c101] at H
                  have c101b0 : (((rd_T115 l0_0 x16_1).f0) == 8) = true := beq_iff_eq.mpr c101
                  have c101b1 : (((rd_T115 l0_0 x16_1).f0) != 8) = false := bne_eq_false_iff_eq.mpr c101
                  clear c101
                  by_cases c102 : (rd x8_1 ((rd_T115 l0_0 x16_1).f1)) > 1
                  ·
                   rw [if_pos c102] at H
                   have c102b0 : decide (1 < (rd x8_1 ((rd_T115 l0_0 x16_1).f1))) = true := decide_eq_true c102
                   clear c102
                   simp only [Option.some.injEq, Prod.mk.injEq] at H
                   obtain ⟨rfl, rfl⟩ := H
                   have hnb103 := NB106_101.out
                   have hnc103 := NB101_106.out
                   have hcz104_0 : wc.cell? ⟨gb106, 0, none⟩ = some (.int .i64 ((rd_T115 l0_0 x16_1).f0)) := (blk_cell BK106.out 0).trans rfl
                   have hcz104_1 : wc.cell? ⟨gb106, 1, none⟩ = some (.int .i64 ((rd_T115 l0_0 x16_1).f1)) := (blk_cell BK106.out 1).trans rfl
                   have hcz104_2 : wc.cell? ⟨gb106, 2, none⟩ = some (.int .i64 ((rd_T115 l0_0 x16_1).f2)) := (blk_cell BK106.out 2).trans rfl
                   have hcz104_3 : wc.cell? ⟨gb106, 3, none⟩ = some (.int .i64 ((rd_T115 l0_0 x16_1).f3)) := (blk_cell BK106.out 3).trans rfl
                   have hfz104_0 := blk_frozen BK106.out 0
                   have hfz104_1 := blk_frozen BK106.out 1
                   have hfz104_2 := blk_frozen BK106.out 2
                   have hfz104_3 := blk_frozen BK106.out 3
                   obtain ⟨Ao105, co105, eo105⟩ := Kd.R_slice HO_8.out
                   subst eo105
                   have p143 : 0 ≤ (((rd_T115 l0_0 x16_1).f1) : Int) := of_decide_eq_true qz0_
                   have q143 : ((rd_T115 l0_0 x16_1).f1) < (x8_1.length : Int) := of_decide_eq_true qz0_
                   obtain ⟨ad143, e143, hx143_0⟩ := Kd.at_int (Kd.R_reads' HO_8.out).2.2 ((rd_T115 l0_0 x16_1).f1) p143 q143
                   cases e143
                   replace p143 := eq_true p143
                   replace q143 := eq_true q143
                   go_wp2
                   repeat (go_quiet (fail); try go_wp2)
                   go_ret2
                   exact ⟨_, qz5_, qz70_, qz23_⟩
                  ·
                   rw [if_neg c102] at H
                   have c102b0 : decide (1 < (rd x8_1 ((rd_T115 l0_0 x16_1).f1))) = false := decide_eq_false c102
                   clear c102
                   by_cases c106 : x8_1.length < 17592186044416
                   ·
                    rw [if_pos c106] at H
                    have LMc106 := am_ c106
                    clear c106
                    obtain ⟨y151, hy151⟩ : ∃ y_ : List Int, y_ = (x8_1 ++ [rd x8_1 ((rd_T115 l0_0 x16_1).f1)]) := ⟨_, rfl⟩
                    replace H : (impl_Circuit_run.l0 kj70 x1_1 x2_1 y151 l0_0 (l0_0.length : Int) (wrap64 (x16_1 + 1))) = some (r1, r2) := by first | (rw [hy151]; with_reducible exact H) | (have H2_ := (Option.bind_some _ _).symm.trans H; rw [hy151]; with_reducible exact H2_) | (have H2_ := (Option.bind_some _ _).symm.trans H; with_reducible exact H2_) | with_reducible exact H | (rw [hy151]; exact H) | exact H
                    have Ny151 := am_ hy151
                    clear hy151
                    have H' := am_ H
                    clear H
                    have hnb107 := NB106_101.out
                    have hnc107 := NB101_106.out
                    have hcz108_0 : wc.cell? ⟨gb106, 0, none⟩ = some (.int .i64 ((rd_T115 l0_0 x16_1).f0)) := (blk_cell BK106.out 0).trans rfl
                    have hcz108_1 : wc.cell? ⟨gb106, 1, none⟩ = some (.int .i64 ((rd_T115 l0_0 x16_1).f1)) := (blk_cell BK106.out 1).trans rfl
                    have hcz108_2 : wc.cell? ⟨gb106, 2, none⟩ = some (.int .i64 ((rd_T115 l0_0 x16_1).f2)) := (blk_cell BK106.out 2).trans rfl
                    have hcz108_3 : wc.cell? ⟨gb106, 3, none⟩ = some (.int .i64 ((rd_T115 l0_0 x16_1).f3)) := (blk_cell BK106.out 3).trans rfl
                    have hfz108_0 := blk_frozen BK106.out 0
                    have hfz108_1 := blk_frozen BK106.out 1
                    have hfz108_2 := blk_frozen BK106.out 2
                    have hfz108_3 := blk_frozen BK106.out 3
                    obtain ⟨Ao109, co109, eo109⟩ := Kd.R_slice HO_8.out
                    subst eo109
                    have p143 : 0 ≤ (((rd_T115 l0_0 x16_1).f1) : Int) := of_decide_eq_true qz0_
                    have q143 : ((rd_T115 l0_0 x16_1).f1) < (x8_1.length : Int) := of_decide_eq_true qz0_
                    obtain ⟨ad143, e143, hx143_0⟩ := Kd.at_int (Kd.R_reads' HO_8.out).2.2 ((rd_T115 l0_0 x16_1).f1) p143 q143
                    cases e143
                    replace p143 := eq_true p143
                    replace q143 := eq_true q143
                    go_wp2_with (first | ((with_reducible refine gate_builtin (b := .append) (xs := #[.tmp 106, .tmp 108]) rfl ?_); at_builtin; refine Kd.R_append (Kd.int .i64) (w0 := w) w.heap.size rfl (.tmp 106) (.tmp 108) 33 3 (.int .i64 0) 8 rfl Try.underlying33 info3 rfl (by decide) (by omega) (.slice (some ad143) x8_1.length co109) x8_1 (rd x8_1 ((rd_T115 l0_0 x16_1).f1)) [.int .i64 (rd x8_1 ((rd_T115 l0_0 x16_1).f1))] (fun k_ => (w.heap.size ≤ k_)) (fun _ => False) rfl rfl ?aP (fun _ hk => hk.elim) ?aF ?aO ?aB ?aS ?aL ?_; (case aP => exact rfl); (case aB => exact qz23_); (case aF => exact (fun k_ hk => (Nat.le_trans (below_size qz23_) hk))); (case aO => exact qz61_); (case aS => exact (below_size qz23_)); (case aL => have := LMc106.out; omega); intro v152 w110 ho hb hg hat; rw [← Ny151.out] at ho; have n0_ := am_ (Kd.V_afterv (ok := (fun k_ => ((P1_ k_ ∨ P2_ k_) ∨ w.heap.size ≤ k_) ∧ k_ ≠ gb101 ∧ k_ ≠ gb106)) qz65_ hg hat); have n1_ := am_ (Kd.V_afterv (ok := (fun k_ => ((P1_ k_ ∨ P2_ k_) ∨ w.heap.size ≤ k_) ∧ k_ ≠ gb101 ∧ k_ ≠ gb106)) qz66_ hg hat); have n2_ := am_ (blk_grown (g := gb101) (o := .cells #[.slice (some ad105) l0_0.length c0_0] 63 (0, 0)) qz11_ hg (Kd.R_ne HO_8.out BK101.out (by decide))); have n3_ := am_ (blk_grown (g := gb106) (o := .cells #[.int .i64 ((rd_T115 l0_0 x16_1).f0), .int .i64 ((rd_T115 l0_0 x16_1).f1), .int .i64 ((rd_T115 l0_0 x16_1).f2), .int .i64 ((rd_T115 l0_0 x16_1).f3)] 115 (0, 0)) qz67_ hg (Kd.R_ne HO_8.out BK106.out (by decide))); have n4_ := am_ (hb); have n5_ := am_ (ho); clear HO_1; clear HO_2; clear BK101; clear BK106; clear HB; clear HO_8; have HO_1 := n0_; have HO_2 := n1_; have BK101 := n2_; have BK106 := n3_; have HB := n4_; have HO153 := n5_; clear n0_ n1_ n2_ n3_ n4_ n5_; clear ho hb hg hat))
                    repeat (go_quiet (fail); try go_wp2_with (first | ((with_reducible refine gate_builtin (b := .append) (xs := #[.tmp 106, .tmp 108]) rfl ?_); at_builtin; refine Kd.R_append (Kd.int .i64) (w0 := w) w.heap.size rfl (.tmp 106) (.tmp 108) 33 3 (.int .i64 0) 8 rfl Try.underlying33 info3 rfl (by decide) (by omega) (.slice (some ad143) x8_1.length co109) x8_1 (rd x8_1 ((rd_T115 l0_0 x16_1).f1)) [.int .i64 (rd x8_1 ((rd_T115 l0_0 x16_1).f1))] (fun k_ => (w.heap.size ≤ k_)) (fun _ => False) rfl rfl ?aP (fun _ hk => hk.elim) ?aF ?aO ?aB ?aS ?aL ?_; (case aP => exact rfl); (case aB => exact qz23_); (case aF => exact (fun k_ hk => (Nat.le_trans (below_size qz23_) hk))); (case aO => exact qz61_); (case aS => exact (below_size qz23_)); (case aL => have := LMc106.out; omega); intro v152 w110 ho hb hg hat; rw [← Ny151.out] at ho; have n0_ := am_ (Kd.V_afterv (ok := (fun k_ => ((P1_ k_ ∨ P2_ k_) ∨ w.heap.size ≤ k_) ∧ k_ ≠ gb101 ∧ k_ ≠ gb106)) qz65_ hg hat); have n1_ := am_ (Kd.V_afterv (ok := (fun k_ => ((P1_ k_ ∨ P2_ k_) ∨ w.heap.size ≤ k_) ∧ k_ ≠ gb101 ∧ k_ ≠ gb106)) qz66_ hg hat); have n2_ := am_ (blk_grown (g := gb101) (o := .cells #[.slice (some ad105) l0_0.length c0_0] 63 (0, 0)) qz11_ hg (Kd.R_ne HO_8.out BK101.out (by decide))); have n3_ := am_ (blk_grown (g := gb106) (o := .cells #[.int .i64 ((rd_T115 l0_0 x16_1).f0), .int .i64 ((rd_T115 l0_0 x16_1).f1), .int .i64 ((rd_T115 l0_0 x16_1).f2), .int .i64 ((rd_T115 l0_0 x16_1).f3)] 115 (0, 0)) qz67_ hg (Kd.R_ne HO_8.out BK106.out (by decide))); have n4_ := am_ (hb); have n5_ := am_ (ho); clear HO_1; clear HO_2; clear BK101; clear BK106; clear HB; clear HO_8; have HO_1 := n0_; have HO_2 := n1_; have BK101 := n2_; have BK106 := n3_; have HB := n4_; have HO153 := n5_; clear n0_ n1_ n2_ n3_ n4_ n5_; clear ho hb hg hat)))
                    go_roundg kj70
                    case measure => have := HK1.out; have := HJ70.out; omega
                    case rel => exact ⟨(x1_1), (x2_1), (y151), (wrap64 (x16_1 + 1)), qz2_, H', ⟨(by have := HK1.out; have := HJ70.out; omega)⟩, ⟨by (with_reducible repeat (first | apply Kd.V_alloc | apply Kd.V_drewN | apply Kd.V_drew)); exact Kd.V_mono HO_1.out (fun _ hk => ⟨hk.1.1, ⟨hk.2, hk.1.2.1⟩⟩)⟩, ⟨by (with_reducible repeat (first | apply Kd.V_alloc | apply Kd.V_drewN | apply Kd.V_drew)); exact Kd.V_mono HO_2.out (fun _ hk => ⟨hk.1.1, ⟨hk.2, hk.1.2.1⟩⟩)⟩, ⟨(by (with_reducible repeat (first | apply Kd.R_alloc | apply Kd.R_drewN | apply Kd.R_drew)); exact HO153.out)⟩, ⟨qz11_⟩, ⟨qz23_⟩⟩
                   ·
                    rw [if_neg c106] at H
                    exact absurd H (by simp)
                 ·
                  rw [if_neg c101] at H
                  have c101b0 : (((rd_T115 l0_0 x16_1).f0) == 8) = false := beq_eq_false_iff_ne.mpr c101
                  have c101b1 : (((rd_T115 l0_0 x16_1).f0) != 8) = true := bne_iff_ne.mpr c101
                  by_cases c111 : x8_1.length < 17592186044416
                  ·
                   rw [if_pos c111] at H
                   have LMc111 := am_ c111
                   clear c111
                   obtain ⟨y154, hy154⟩ : ∃ y_ : List Int, y_ = (x8_1 ++ [rd x8_1 ((rd_T115 l0_0 x16_1).f1)]) := ⟨_, rfl⟩
                   replace H : (impl_Circuit_run.l0 kj70 x1_1 x2_1 y154 l0_0 (l0_0.length : Int) (wrap64 (x16_1 + 1))) = some (r1, r2) := by first | (rw [hy154]; with_reducible exact H) | (have H2_ := (Option.bind_some _ _).symm.trans H; rw [hy154]; with_reducible exact H2_) | (have H2_ := (Option.bind_some _ _).symm.trans H; with_reducible exact H2_) | with_reducible exact H | (rw [hy154]; exact H) | exact H
                   have Ny154 := am_ hy154
                   clear hy154
                   have H' := am_ H
                   clear H
                   have hnb112 := NB106_101.out
                   have hnc112 := NB101_106.out
                   have hcz113_0 : wc.cell? ⟨gb106, 0, none⟩ = some (.int .i64 ((rd_T115 l0_0 x16_1).f0)) := (blk_cell BK106.out 0).trans rfl
                   have hcz113_1 : wc.cell? ⟨gb106, 1, none⟩ = some (.int .i64 ((rd_T115 l0_0 x16_1).f1)) := (blk_cell BK106.out 1).trans rfl
                   have hcz113_2 : wc.cell? ⟨gb106, 2, none⟩ = some (.int .i64 ((rd_T115 l0_0 x16_1).f2)) := (blk_cell BK106.out 2).trans rfl
                   have hcz113_3 : wc.cell? ⟨gb106, 3, none⟩ = some (.int .i64 ((rd_T115 l0_0 x16_1).f3)) := (blk_cell BK106.out 3).trans rfl
                   have hfz113_0 := blk_frozen BK106.out 0
                   have hfz113_1 := blk_frozen BK106.out 1
                   have hfz113_2 := blk_frozen BK106.out 2
                   have hfz113_3 := blk_frozen BK106.out 3
                   obtain ⟨Ao114, co114, eo114⟩ := Kd.R_slice HO_8.out
                   subst eo114
                   have p143 : 0 ≤ (((rd_T115 l0_0 x16_1).f1) : Int) := of_decide_eq_true qz0_
                   have q143 : ((rd_T115 l0_0 x16_1).f1) < (x8_1.length : Int) := of_decide_eq_true qz0_
                   obtain ⟨ad143, e143, hx143_0⟩ := Kd.at_int (Kd.R_reads' HO_8.out).2.2 ((rd_T115 l0_0 x16_1).f1) p143 q143
                   cases e143
                   replace p143 := eq_true p143
                   replace q143 := eq_true q143
                   go_wp2_with (first | ((with_reducible refine gate_builtin (b := .append) (xs := #[.tmp 106, .tmp 108]) rfl ?_); at_builtin; refine Kd.R_append (Kd.int .i64) (w0 := w) w.heap.size rfl (.tmp 106) (.tmp 108) 33 3 (.int .i64 0) 8 rfl Try.underlying33 info3 rfl (by decide) (by omega) (.slice (some ad143) x8_1.length co114) x8_1 (rd x8_1 ((rd_T115 l0_0 x16_1).f1)) [.int .i64 (rd x8_1 ((rd_T115 l0_0 x16_1).f1))] (fun k_ => (w.heap.size ≤ k_)) (fun _ => False) rfl rfl ?aP (fun _ hk => hk.elim) ?aF ?aO ?aB ?aS ?aL ?_; (case aP => exact rfl); (case aB => exact qz23_); (case aF => exact (fun k_ hk => (Nat.le_trans (below_size qz23_) hk))); (case aO => exact qz61_); (case aS => exact (below_size qz23_)); (case aL => have := LMc111.out; omega); intro v155 w115 ho hb hg hat; rw [← Ny154.out] at ho; have n0_ := am_ (Kd.V_afterv (ok := (fun k_ => ((P1_ k_ ∨ P2_ k_) ∨ w.heap.size ≤ k_) ∧ k_ ≠ gb101 ∧ k_ ≠ gb106)) qz65_ hg hat); have n1_ := am_ (Kd.V_afterv (ok := (fun k_ => ((P1_ k_ ∨ P2_ k_) ∨ w.heap.size ≤ k_) ∧ k_ ≠ gb101 ∧ k_ ≠ gb106)) qz66_ hg hat); have n2_ := am_ (blk_grown (g := gb101) (o := .cells #[.slice (some ad105) l0_0.length c0_0] 63 (0, 0)) qz11_ hg (Kd.R_ne HO_8.out BK101.out (by decide))); have n3_ := am_ (blk_grown (g := gb106) (o := .cells #[.int .i64 ((rd_T115 l0_0 x16_1).f0), .int .i64 ((rd_T115 l0_0 x16_1).f1), .int .i64 ((rd_T115 l0_0 x16_1).f2), .int .i64 ((rd_T115 l0_0 x16_1).f3)] 115 (0, 0)) qz67_ hg (Kd.R_ne HO_8.out BK106.out (by decide))); have n4_ := am_ (hb); have n5_ := am_ (ho); clear HO_1; clear HO_2; clear BK101; clear BK106; clear HB; clear HO_8; have HO_1 := n0_; have HO_2 := n1_; have BK101 := n2_; have BK106 := n3_; have HB := n4_; have HO156 := n5_; clear n0_ n1_ n2_ n3_ n4_ n5_; clear ho hb hg hat))
                   repeat (go_quiet (fail); try go_wp2_with (first | ((with_reducible refine gate_builtin (b := .append) (xs := #[.tmp 106, .tmp 108]) rfl ?_); at_builtin; refine Kd.R_append (Kd.int .i64) (w0 := w) w.heap.size rfl (.tmp 106) (.tmp 108) 33 3 (.int .i64 0) 8 rfl Try.underlying33 info3 rfl (by decide) (by omega) (.slice (some ad143) x8_1.length co114) x8_1 (rd x8_1 ((rd_T115 l0_0 x16_1).f1)) [.int .i64 (rd x8_1 ((rd_T115 l0_0 x16_1).f1))] (fun k_ => (w.heap.size ≤ k_)) (fun _ => False) rfl rfl ?aP (fun _ hk => hk.elim) ?aF ?aO ?aB ?aS ?aL ?_; (case aP => exact rfl); (case aB => exact qz23_); (case aF => exact (fun k_ hk => (Nat.le_trans (below_size qz23_) hk))); (case aO => exact qz61_); (case aS => exact (below_size qz23_)); (case aL => have := LMc111.out; omega); intro v155 w115 ho hb hg hat; rw [← Ny154.out] at ho; have n0_ := am_ (Kd.V_afterv (ok := (fun k_ => ((P1_ k_ ∨ P2_ k_) ∨ w.heap.size ≤ k_) ∧ k_ ≠ gb101 ∧ k_ ≠ gb106)) qz65_ hg hat); have n1_ := am_ (Kd.V_afterv (ok := (fun k_ => ((P1_ k_ ∨ P2_ k_) ∨ w.heap.size ≤ k_) ∧ k_ ≠ gb101 ∧ k_ ≠ gb106)) qz66_ hg hat); have n2_ := am_ (blk_grown (g := gb101) (o := .cells #[.slice (some ad105) l0_0.length c0_0] 63 (0, 0)) qz11_ hg (Kd.R_ne HO_8.out BK101.out (by decide))); have n3_ := am_ (blk_grown (g := gb106) (o := .cells #[.int .i64 ((rd_T115 l0_0 x16_1).f0), .int .i64 ((rd_T115 l0_0 x16_1).f1), .int .i64 ((rd_T115 l0_0 x16_1).f2), .int .i64 ((rd_T115 l0_0 x16_1).f3)] 115 (0, 0)) qz67_ hg (Kd.R_ne HO_8.out BK106.out (by decide))); have n4_ := am_ (hb); have n5_ := am_ (ho); clear HO_1; clear HO_2; clear BK101; clear BK106; clear HB; clear HO_8; have HO_1 := n0_; have HO_2 := n1_; have BK101 := n2_; have BK106 := n3_; have HB := n4_; have HO156 := n5_; clear n0_ n1_ n2_ n3_ n4_ n5_; clear ho hb hg hat)))
                   go_roundg kj70
                   case measure => have := HK1.out; have := HJ70.out; omega
                   case rel => exact ⟨(x1_1), (x2_1), (y154), (wrap64 (x16_1 + 1)), qz2_, H', ⟨(by have := HK1.out; have := HJ70.out; omega)⟩, ⟨by (with_reducible repeat (first | apply Kd.V_alloc | apply Kd.V_drewN | apply Kd.V_drew)); exact Kd.V_mono HO_1.out (fun _ hk => ⟨hk.1.1, ⟨hk.2, hk.1.2.1⟩⟩)⟩, ⟨by (with_reducible repeat (first | apply Kd.V_alloc | apply Kd.V_drewN | apply Kd.V_drew)); exact Kd.V_mono HO_2.out (fun _ hk => ⟨hk.1.1, ⟨hk.2, hk.1.2.1⟩⟩)⟩, ⟨(by (with_reducible repeat (first | apply Kd.R_alloc | apply Kd.R_drewN | apply Kd.R_drew)); exact HO156.out)⟩, ⟨qz11_⟩, ⟨qz23_⟩⟩
                  ·
                   rw [if_neg c111] at H
                   exact absurd H (by simp)
               ·
                rw [if_neg c78] at H
                exact absurd H (by simp)
              ·
               rw [if_neg c77] at H
               exact absurd H (by simp)
             ·
              replace c76 := Bool.eq_false_iff.mpr c76
              subst c76
              have H1 : (if x8_1.length < 17592186044416 then (impl_Circuit_run.l0 kj70 x1_1 x2_1 (x8_1 ++ [((rd_T115 l0_0 x16_1).f3)]) l0_0 (l0_0.length : Int) (wrap64 (x16_1 + 1))) else (none)) = some (r1, r2) := by rw [if_neg (show ¬ (false = true) by decide)] at H; exact H
              clear H
              have H := H1
              clear H1
              by_cases c116 : x8_1.length < 17592186044416
              ·
               rw [if_pos c116] at H
               have LMc116 := am_ c116
               clear c116
               obtain ⟨y157, hy157⟩ : ∃ y_ : List Int, y_ = (x8_1 ++ [((rd_T115 l0_0 x16_1).f3)]) := ⟨_, rfl⟩
               replace H : (impl_Circuit_run.l0 kj70 x1_1 x2_1 y157 l0_0 (l0_0.length : Int) (wrap64 (x16_1 + 1))) = some (r1, r2) := by first | (rw [hy157]; with_reducible exact H) | (have H2_ := (Option.bind_some _ _).symm.trans H; rw [hy157]; with_reducible exact H2_) | (have H2_ := (Option.bind_some _ _).symm.trans H; with_reducible exact H2_) | with_reducible exact H | (rw [hy157]; exact H) | exact H
               have Ny157 := am_ hy157
               clear hy157
               have H' := am_ H
               clear H
               go_wp2_with (first | ((with_reducible refine gate_builtin (b := .append) (xs := #[.tmp 106, .tmp 108]) rfl ?_); at_builtin; refine Kd.R_append (Kd.int .i64) (w0 := w) w.heap.size rfl (.tmp 106) (.tmp 108) 33 3 (.int .i64 0) 8 rfl Try.underlying33 info3 rfl (by decide) (by omega) u8 x8_1 ((rd_T115 l0_0 x16_1).f3) [.int .i64 ((rd_T115 l0_0 x16_1).f3)] (fun k_ => (w.heap.size ≤ k_)) (fun _ => False) rfl rfl ?aP (fun _ hk => hk.elim) ?aF ?aO ?aB ?aS ?aL ?_; (case aP => exact rfl); (case aB => exact qz23_); (case aF => exact (fun k_ hk => (Nat.le_trans (below_size qz23_) hk))); (case aO => exact qz61_); (case aS => exact (below_size qz23_)); (case aL => have := LMc116.out; omega); intro v158 w117 ho hb hg hat; rw [← Ny157.out] at ho; have n0_ := am_ (Kd.V_afterv (ok := (fun k_ => ((P1_ k_ ∨ P2_ k_) ∨ w.heap.size ≤ k_) ∧ k_ ≠ gb101 ∧ k_ ≠ gb106)) qz65_ hg hat); have n1_ := am_ (Kd.V_afterv (ok := (fun k_ => ((P1_ k_ ∨ P2_ k_) ∨ w.heap.size ≤ k_) ∧ k_ ≠ gb101 ∧ k_ ≠ gb106)) qz66_ hg hat); have n2_ := am_ (blk_grown (g := gb101) (o := .cells #[.slice (some ad105) l0_0.length c0_0] 63 (0, 0)) qz11_ hg (Kd.R_ne HO_8.out BK101.out (by decide))); have n3_ := am_ (blk_grown (g := gb106) (o := .cells #[.int .i64 ((rd_T115 l0_0 x16_1).f0), .int .i64 ((rd_T115 l0_0 x16_1).f1), .int .i64 ((rd_T115 l0_0 x16_1).f2), .int .i64 ((rd_T115 l0_0 x16_1).f3)] 115 (0, 0)) qz67_ hg (Kd.R_ne HO_8.out BK106.out (by decide))); have n4_ := am_ (hb); have n5_ := am_ (ho); clear HO_1; clear HO_2; clear BK101; clear BK106; clear HB; clear HO_8; have HO_1 := n0_; have HO_2 := n1_; have BK101 := n2_; have BK106 := n3_; have HB := n4_; have HO159 := n5_; clear n0_ n1_ n2_ n3_ n4_ n5_; clear ho hb hg hat))
               repeat (go_quiet (fail); try go_wp2_with (first | ((with_reducible refine gate_builtin (b := .append) (xs := #[.tmp 106, .tmp 108]) rfl ?_); at_builtin; refine Kd.R_append (Kd.int .i64) (w0 := w) w.heap.size rfl (.tmp 106) (.tmp 108) 33 3 (.int .i64 0) 8 rfl Try.underlying33 info3 rfl (by decide) (by omega) u8 x8_1 ((rd_T115 l0_0 x16_1).f3) [.int .i64 ((rd_T115 l0_0 x16_1).f3)] (fun k_ => (w.heap.size ≤ k_)) (fun _ => False) rfl rfl ?aP (fun _ hk => hk.elim) ?aF ?aO ?aB ?aS ?aL ?_; (case aP => exact rfl); (case aB => exact qz23_); (case aF => exact (fun k_ hk => (Nat.le_trans (below_size qz23_) hk))); (case aO => exact qz61_); (case aS => exact (below_size qz23_)); (case aL => have := LMc116.out; omega); intro v158 w117 ho hb hg hat; rw [← Ny157.out] at ho; have n0_ := am_ (Kd.V_afterv (ok := (fun k_ => ((P1_ k_ ∨ P2_ k_) ∨ w.heap.size ≤ k_) ∧ k_ ≠ gb101 ∧ k_ ≠ gb106)) qz65_ hg hat); have n1_ := am_ (Kd.V_afterv (ok := (fun k_ => ((P1_ k_ ∨ P2_ k_) ∨ w.heap.size ≤ k_) ∧ k_ ≠ gb101 ∧ k_ ≠ gb106)) qz66_ hg hat); have n2_ := am_ (blk_grown (g := gb101) (o := .cells #[.slice (some ad105) l0_0.length c0_0] 63 (0, 0)) qz11_ hg (Kd.R_ne HO_8.out BK101.out (by decide))); have n3_ := am_ (blk_grown (g := gb106) (o := .cells #[.int .i64 ((rd_T115 l0_0 x16_1).f0), .int .i64 ((rd_T115 l0_0 x16_1).f1), .int .i64 ((rd_T115 l0_0 x16_1).f2), .int .i64 ((rd_T115 l0_0 x16_1).f3)] 115 (0, 0)) qz67_ hg (Kd.R_ne HO_8.out BK106.out (by decide))); have n4_ := am_ (hb); have n5_ := am_ (ho); clear HO_1; clear HO_2; clear BK101; clear BK106; clear HB; clear HO_8; have HO_1 := n0_; have HO_2 := n1_; have BK101 := n2_; have BK106 := n3_; have HB := n4_; have HO159 := n5_; clear n0_ n1_ n2_ n3_ n4_ n5_; clear ho hb hg hat)))
               go_roundg kj70
               case measure => have := HK1.out; have := HJ70.out; omega
               case rel => exact ⟨(x1_1), (x2_1), (y157), (wrap64 (x16_1 + 1)), qz2_, H', ⟨(by have := HK1.out; have := HJ70.out; omega)⟩, ⟨by (with_reducible repeat (first | apply Kd.V_alloc | apply Kd.V_drewN | apply Kd.V_drew)); exact Kd.V_mono HO_1.out (fun _ hk => ⟨hk.1.1, ⟨hk.2, hk.1.2.1⟩⟩)⟩, ⟨by (with_reducible repeat (first | apply Kd.V_alloc | apply Kd.V_drewN | apply Kd.V_drew)); exact Kd.V_mono HO_2.out (fun _ hk => ⟨hk.1.1, ⟨hk.2, hk.1.2.1⟩⟩)⟩, ⟨(by (with_reducible repeat (first | apply Kd.R_alloc | apply Kd.R_drewN | apply Kd.R_drew)); exact HO159.out)⟩, ⟨qz11_⟩, ⟨qz23_⟩⟩
              ·
               rw [if_neg c116] at H
               exact absurd H (by simp)
     ·
      rw [if_neg c10] at H
      exact absurd H (by simp)
    ·
     rw [if_neg c9] at H
     exact absurd H (by simp)
   ·
    rw [if_neg c8] at H
    have c8b0 : decide (x16_1 < (l0_0.length : Int)) = false := decide_eq_false c8
    clear c8
    simp only [Option.some.injEq, Prod.mk.injEq] at H
    obtain ⟨rfl, rfl⟩ := H
    go_wp2
    repeat (go_quiet (fail); try go_wp2)
    go_ret2
    exact ⟨_, qz5_, qz61_, qz10_⟩

end Go.Proofs.Ytekijbcblajjbaa.PT
end
section
namespace Go.Proofs.Ytekijbcblajjbaa.PT
open Go.RowKit Go.Proofs.YtekijbcblajjbaaW.PrintWords Go.Proofs.YtekijbcblajjbaaW.PrintLast Go.Proofs.YtekijbcblajjbaaW.PrintMore
attribute [local go_sem] max2_int min2_int max_two min_two max_three min_three max_four min_four   -- for this text's walks alone
set_option linter.unusedVariables false
set_option linter.unusedSimpArgs false

/-! ### impl_RunCircuit: function 36 -/
def impl_RunCircuit.f (k : Nat) (l0_0 : List (S115)) (l1 : List Int) (l2 : List Int) : Option (List Int × Int) := (impl_runCode.f k l0_0 l1 l2).bind fun t102 => (if t102 = 0 then ((impl_Circuit_run.f k l0_0 l1 l2).bind fun bt103 => (if bt103.2 = true then (some (bt103.1, 0)) else (some (([] : List Int), 15)))) else (some (([] : List Int), t102)))
theorem impl_RunCircuit.mono : ∀ a0 a1 a2 k, LeO (impl_RunCircuit.f k a0 a1 a2) (impl_RunCircuit.f (k + 1) a0 a1 a2) := by
 intro a0 a1 a2 k
 unfold impl_RunCircuit.f
 repeat' first
   | (with_reducible exact impl_Circuit_run.mono _ _ _ _)
   | (with_reducible exact impl_runCode.mono _ _ _ _)
   | (with_reducible exact LeO.refl _)
   | (with_reducible exact LeO.none _)
   | (with_reducible refine LeO.ite ?_ ?_)
   | (with_reducible refine LeO.bind ?_ (fun _ => ?_))
   | exact impl_Circuit_run.mono _ _ _ _
   | exact impl_runCode.mono _ _ _ _
   | exact LeO.none _
   | refine LeO.ite ?_ ?_
   | refine LeO.bind ?_ (fun _ => ?_)
set_option maxHeartbeats 8000000 in
set_option maxRecDepth 100000 in
theorem impl_RunCircuit.calls (k : Nat) (A0_0 : Option Addr) (c0_0 : Nat) (l0_0 : List (S115)) (A1 : Option Addr) (c1 : Nat) (l1 : List Int) (A2 : Option Addr) (c2 : Nat) (l2 : List Int) (r1 : List Int) (r2 : Int) (w : World) (hr0_0 : Kd.C k115 w A0_0 l0_0.length l0_0) (hc0_0 : l0_0.length ≤ c0_0) (hr1 : Kd.C (Kd.int .i64) w A1 l1.length l1) (hc1 : l1.length ≤ c1) (hr2 : Kd.C (Kd.int .i64) w A2 l2.length l2) (hc2 : l2.length ≤ c2) (h : impl_RunCircuit.f k l0_0 l1 l2 = some (r1, r2)) :
  Calls Try.prog 36 #[.agg #[.slice A0_0 l0_0.length c0_0], .slice A1 l1.length c1, .slice A2 l2.length c2] w fun e w' => ∃ v0_ : Value, e = .returned (.tuple #[v0_, .int .i64 r2]) ∧ Kd.R (Kd.int .i64) 3 w' w.heap.size (fun _ => True) v0_ r1 ∧ Below w.heap.size w w' := by
 have hu63 := Try.underlying63
 have HR0_0 := am_ hr0_0
 have HC0_0 := am_ hc0_0
 clear hr0_0 hc0_0
 have HR1 := am_ hr1
 have HC1 := am_ hc1
 clear hr1 hc1
 have HR2 := am_ hr2
 have HC2 := am_ hc2
 clear hr2 hc2
 have HB := am_ (Below.refl w.heap.size w)
 have H : ((impl_runCode.f k l0_0 l1 l2).bind fun t102 => (if t102 = 0 then ((impl_Circuit_run.f k l0_0 l1 l2).bind fun bt103 => (if bt103.2 = true then (some (bt103.1, 0)) else (some (([] : List Int), 15)))) else (some (([] : List Int), t102)))) = some (r1, r2) := h
 clear h
 replace H := Option.bind_eq_some_iff.mp H
 obtain ⟨t102, A40, H⟩ := H
 replace H : (if t102 = 0 then ((impl_Circuit_run.f k l0_0 l1 l2).bind fun bt103 => (if bt103.2 = true then (some (bt103.1, 0)) else (some (([] : List Int), 15)))) else (some (([] : List Int), t102))) = some (r1, r2) := H
 have A4 := am_ A40
 clear A40
 by_cases c5 : t102 = 0
 ·
  rw [if_pos c5] at H
  have c5b0 : (t102 == 0) = true := beq_iff_eq.mpr c5
  have c5b1 : (t102 != 0) = false := bne_eq_false_iff_eq.mpr c5
  clear c5
  replace H := Option.bind_eq_some_iff.mp H
  obtain ⟨⟨t103, t106⟩, A60, H⟩ := H
  replace H : (if t106 = true then (some (t103, 0)) else (some (([] : List Int), 15))) = some (r1, r2) := H
  have A6 := am_ A60
  clear A60
  by_cases c7 : t106 = true
  ·
   subst c7
   have H1 : (some (t103, 0)) = some (r1, r2) := by rw [if_pos rfl] at H; exact H
   clear H
   have H := H1
   clear H1
   simp only [Option.some.injEq, Prod.mk.injEq] at H
   obtain ⟨rfl, rfl⟩ := H
   go_enter Try.func36, Try.ntmps36
   go_wp2_with (first | ((with_reducible refine gate_dst (N := 3) rfl ?_); refine box_event ?hg (N := 3) ?hd (cs := #[.slice A0_0 l0_0.length c0_0]) (t := 63) ?hr ?_; (case hd => rfl); (case hg => rfl); (case hr => first | (go_simp; done) | (go_simp; rfl)); intro gb101 hg w8 hbox hb; have n0_ := am_ (below_step qz1_ hb); have n1_ := am_ (hbox); have n2_ := am_ ((by rw [hg]; exact (below_size qz1_) : w.heap.size ≤ gb101)); have n3_ := am_ ((by rw [hg]; exact (below_size qz1_) : w.heap.size ≤ gb101)); clear HB; have HB := n0_; have BK101 := n1_; have GW101 := n2_; have GE101 := n3_; clear n0_ n1_ n2_ n3_; clear hb hbox hg; have hcz9_0 : w8.cell? ⟨gb101, 0, none⟩ = some (.slice A0_0 l0_0.length c0_0) := (blk_cell BK101.out 0).trans rfl; have hfz9_0 := blk_frozen BK101.out 0) | ((with_reducible refine gate_callee (f := 73) rfl ?_); refine goesL_ (some 14) rfl rfl Try.func73 (by kernel_rfl) rfl #[.agg #[.slice A0_0 l0_0.length c0_0], .slice A1 l1.length c1, .slice A2 l2.length c2] rfl qz9_ ?_; (with_reducible refine (impl_runCode.calls k _ _ l0_0 _ _ l1 _ _ l2 t102 _ ?side1 ?side2 ?side3 ?side4 ?side5 ?side6 A4.out).mono ?_); (case side1 => exact qc_ (Kd.C_below HR0_0.out HB.out)); (case side2 => exact HC0_0.out); (case side3 => exact qc_ (Kd.C_below HR1.out HB.out)); (case side4 => exact HC1.out); (case side5 => exact qc_ (Kd.C_below HR2.out HB.out)); (case side6 => exact HC2.out); rintro e w10 ⟨rfl, hb⟩; refine ⟨_, rfl, ?_⟩; have n0_ := am_ (blk_below (g := gb101) (o := .cells #[.slice A0_0 l0_0.length c0_0] 63 (0, 0)) qz11_ hb); have n1_ := am_ (below_step qz10_ hb); clear BK101; clear HB; have BK101 := n0_; have HB := n1_; clear n0_ n1_; (try clear hb); (try clear hb2); (try clear hk); (try clear hi); have hcz11_0 : w10.cell? ⟨gb101, 0, none⟩ = some (.slice A0_0 l0_0.length c0_0) := (blk_cell BK101.out 0).trans rfl; have hfz11_0 := blk_frozen BK101.out 0) | ((with_reducible refine gate_callee (f := 74) rfl ?_); refine goesL_ (some 22) rfl rfl Try.func74 (by kernel_rfl) rfl #[.agg #[.slice A0_0 l0_0.length c0_0], .slice A1 l1.length c1, .slice A2 l2.length c2] rfl qz9_ ?_; (with_reducible refine (impl_Circuit_run.calls k _ _ l0_0 (fun k_ => k_ < w.heap.size) _ _ l1 (fun k_ => k_ < w.heap.size) _ _ l2 t103 true _ ?side1 ?side2 ?side3 ?side4 A6.out).mono ?_); (case side1 => exact qc_ (Kd.C_below HR0_0.out HB.out)); (case side2 => exact HC0_0.out); (case side3 => exact Kd.V_mk HC1.out (Kd.F_below (Kd.C_F (Kd.heap_int .i64) HR1.out) qz10_)); (case side4 => exact Kd.V_mk HC2.out (Kd.F_below (Kd.C_F (Kd.heap_int .i64) HR2.out) qz10_)); rintro e w12 ⟨v104, rfl, ho0, hb⟩; refine ⟨_, rfl, ?_⟩; have n0_ := am_ (Kd.R_lower (Kd.R_mono (ok' := fun k_ => True) ho0 (fun _ hk_ => trivial)) (below_size qz10_)); have n1_ := am_ (blk_below (g := gb101) (o := .cells #[.slice A0_0 l0_0.length c0_0] 63 (0, 0)) qz11_ hb); have n2_ := am_ (below_step qz10_ hb); clear BK101; clear HB; have HO105 := n0_; have BK101 := n1_; have HB := n2_; clear n0_ n1_ n2_; (try clear hb); (try clear hb2); (try clear hk); (try clear hi); (try clear ho0)))
   go_ret2
   exact ⟨_, qz5_, qz71_, qz10_⟩
  ·
   replace c7 := Bool.eq_false_iff.mpr c7
   subst c7
   have H1 : (some (([] : List Int), 15)) = some (r1, r2) := by rw [if_neg (show ¬ (false = true) by decide)] at H; exact H
   clear H
   have H := H1
   clear H1
   simp only [Option.some.injEq, Prod.mk.injEq] at H
   obtain ⟨rfl, rfl⟩ := H
   go_enter Try.func36, Try.ntmps36
   go_wp2_with (first | ((with_reducible refine gate_dst (N := 3) rfl ?_); refine box_event ?hg (N := 3) ?hd (cs := #[.slice A0_0 l0_0.length c0_0]) (t := 63) ?hr ?_; (case hd => rfl); (case hg => rfl); (case hr => first | (go_simp; done) | (go_simp; rfl)); intro gb101 hg w13 hbox hb; have n0_ := am_ (below_step qz1_ hb); have n1_ := am_ (hbox); have n2_ := am_ ((by rw [hg]; exact (below_size qz1_) : w.heap.size ≤ gb101)); have n3_ := am_ ((by rw [hg]; exact (below_size qz1_) : w.heap.size ≤ gb101)); clear HB; have HB := n0_; have BK101 := n1_; have GW101 := n2_; have GE101 := n3_; clear n0_ n1_ n2_ n3_; clear hb hbox hg; have hcz14_0 : w13.cell? ⟨gb101, 0, none⟩ = some (.slice A0_0 l0_0.length c0_0) := (blk_cell BK101.out 0).trans rfl; have hfz14_0 := blk_frozen BK101.out 0) | ((with_reducible refine gate_callee (f := 73) rfl ?_); refine goesL_ (some 14) rfl rfl Try.func73 (by kernel_rfl) rfl #[.agg #[.slice A0_0 l0_0.length c0_0], .slice A1 l1.length c1, .slice A2 l2.length c2] rfl qz9_ ?_; (with_reducible refine (impl_runCode.calls k _ _ l0_0 _ _ l1 _ _ l2 t102 _ ?side1 ?side2 ?side3 ?side4 ?side5 ?side6 A4.out).mono ?_); (case side1 => exact qc_ (Kd.C_below HR0_0.out HB.out)); (case side2 => exact HC0_0.out); (case side3 => exact qc_ (Kd.C_below HR1.out HB.out)); (case side4 => exact HC1.out); (case side5 => exact qc_ (Kd.C_below HR2.out HB.out)); (case side6 => exact HC2.out); rintro e w15 ⟨rfl, hb⟩; refine ⟨_, rfl, ?_⟩; have n0_ := am_ (blk_below (g := gb101) (o := .cells #[.slice A0_0 l0_0.length c0_0] 63 (0, 0)) qz11_ hb); have n1_ := am_ (below_step qz10_ hb); clear BK101; clear HB; have BK101 := n0_; have HB := n1_; clear n0_ n1_; (try clear hb); (try clear hb2); (try clear hk); (try clear hi); have hcz16_0 : w15.cell? ⟨gb101, 0, none⟩ = some (.slice A0_0 l0_0.length c0_0) := (blk_cell BK101.out 0).trans rfl; have hfz16_0 := blk_frozen BK101.out 0) | ((with_reducible refine gate_callee (f := 74) rfl ?_); refine goesL_ (some 22) rfl rfl Try.func74 (by kernel_rfl) rfl #[.agg #[.slice A0_0 l0_0.length c0_0], .slice A1 l1.length c1, .slice A2 l2.length c2] rfl qz9_ ?_; (with_reducible refine (impl_Circuit_run.calls k _ _ l0_0 (fun k_ => k_ < w.heap.size) _ _ l1 (fun k_ => k_ < w.heap.size) _ _ l2 t103 false _ ?side1 ?side2 ?side3 ?side4 A6.out).mono ?_); (case side1 => exact qc_ (Kd.C_below HR0_0.out HB.out)); (case side2 => exact HC0_0.out); (case side3 => exact Kd.V_mk HC1.out (Kd.F_below (Kd.C_F (Kd.heap_int .i64) HR1.out) qz10_)); (case side4 => exact Kd.V_mk HC2.out (Kd.F_below (Kd.C_F (Kd.heap_int .i64) HR2.out) qz10_)); rintro e w17 ⟨v104, rfl, ho0, hb⟩; refine ⟨_, rfl, ?_⟩; have n0_ := am_ (Kd.R_lower (Kd.R_mono (ok' := fun k_ => True) ho0 (fun _ hk_ => trivial)) (below_size qz10_)); have n1_ := am_ (blk_below (g := gb101) (o := .cells #[.slice A0_0 l0_0.length c0_0] 63 (0, 0)) qz11_ hb); have n2_ := am_ (below_step qz10_ hb); clear BK101; clear HB; have HO105 := n0_; have BK101 := n1_; have HB := n2_; clear n0_ n1_ n2_; (try clear hb); (try clear hb2); (try clear hk); (try clear hi); (try clear ho0)))
   go_ret2
   exact ⟨_, qz5_, qz70_, qz10_⟩
 ·
  rw [if_neg c5] at H
  have c5b0 : (t102 == 0) = false := beq_eq_false_iff_ne.mpr c5
  have c5b1 : (t102 != 0) = true := bne_iff_ne.mpr c5
  simp only [Option.some.injEq, Prod.mk.injEq] at H
  obtain ⟨rfl, rfl⟩ := H
  go_enter Try.func36, Try.ntmps36
  go_wp2_with (first | ((with_reducible refine gate_dst (N := 3) rfl ?_); refine box_event ?hg (N := 3) ?hd (cs := #[.slice A0_0 l0_0.length c0_0]) (t := 63) ?hr ?_; (case hd => rfl); (case hg => rfl); (case hr => first | (go_simp; done) | (go_simp; rfl)); intro gb101 hg w18 hbox hb; have n0_ := am_ (below_step qz1_ hb); have n1_ := am_ (hbox); have n2_ := am_ ((by rw [hg]; exact (below_size qz1_) : w.heap.size ≤ gb101)); have n3_ := am_ ((by rw [hg]; exact (below_size qz1_) : w.heap.size ≤ gb101)); clear HB; have HB := n0_; have BK101 := n1_; have GW101 := n2_; have GE101 := n3_; clear n0_ n1_ n2_ n3_; clear hb hbox hg; have hcz19_0 : w18.cell? ⟨gb101, 0, none⟩ = some (.slice A0_0 l0_0.length c0_0) := (blk_cell BK101.out 0).trans rfl; have hfz19_0 := blk_frozen BK101.out 0) | ((with_reducible refine gate_callee (f := 73) rfl ?_); refine goesL_ (some 14) rfl rfl Try.func73 (by kernel_rfl) rfl #[.agg #[.slice A0_0 l0_0.length c0_0], .slice A1 l1.length c1, .slice A2 l2.length c2] rfl qz9_ ?_; (with_reducible refine (impl_runCode.calls k _ _ l0_0 _ _ l1 _ _ l2 t102 _ ?side1 ?side2 ?side3 ?side4 ?side5 ?side6 A4.out).mono ?_); (case side1 => exact qc_ (Kd.C_below HR0_0.out HB.out)); (case side2 => exact HC0_0.out); (case side3 => exact qc_ (Kd.C_below HR1.out HB.out)); (case side4 => exact HC1.out); (case side5 => exact qc_ (Kd.C_below HR2.out HB.out)); (case side6 => exact HC2.out); rintro e w20 ⟨rfl, hb⟩; refine ⟨_, rfl, ?_⟩; have n0_ := am_ (blk_below (g := gb101) (o := .cells #[.slice A0_0 l0_0.length c0_0] 63 (0, 0)) qz11_ hb); have n1_ := am_ (below_step qz10_ hb); clear BK101; clear HB; have BK101 := n0_; have HB := n1_; clear n0_ n1_; (try clear hb); (try clear hb2); (try clear hk); (try clear hi)))
  go_ret2
  exact ⟨_, qz5_, qz70_, qz10_⟩


/-! ### slices_Clone_int_int: function 78 -/
def slices_Clone_int_int.f (l0 : List (Int)) : Option (List (Int)) := if l0.length < 17592186044416 then some l0 else none
set_option maxHeartbeats 8000000 in
set_option maxRecDepth 100000 in
theorem slices_Clone_int_int.calls (A0 : Option Addr) (c0 : Nat) (l0 : List (Int)) (r : List (Int)) (w : World) (hr0 : Kd.C (Kd.int .i64) w A0 l0.length l0) (hc0 : l0.length ≤ c0) (h : slices_Clone_int_int.f l0 = some r) :
  Calls Try.prog 78 #[.slice A0 l0.length c0] w fun e w' => ∃ v0_ : Value, e = .returned (v0_) ∧ Kd.R (Kd.int .i64) 3 w' w.heap.size (fun _ => True) v0_ r ∧ Below w.heap.size w w' := by
 unfold slices_Clone_int_int.f at h
 by_cases c4 : l0.length < 17592186044416
 ·
  rw [if_pos c4] at h
  obtain rfl := Option.some.inj h
  clear h
  have LMc4 := am_ c4
  clear c4
  cases A0 with
  | none =>
   have hl : l0 = [] := by
    cases l0 with
    | nil => rfl
    | cons x t => obtain ⟨ad, h1, _⟩ := hr0.2.2 (by simp); cases h1
   subst hl
   have HB := am_ (Below.refl w.heap.size w)
   have hq : ∀ W : World, (binOp .eql 33 (.slice none 0 c0) (.slice none 0 0)).run Try.prog W = .ok (.bool true) W := fun W => Lib.run_eql_slice_nil_nil W 0 c0 Try.underlying33
   go_enter Try.func78, Try.ntmps78
   go_wp2
   go_ret
   exact ⟨_, (by first | rfl | (simp; done)), Kd.R_nil _ _ _ _ _, qz1_⟩
  | some ad0 =>
   have HR0 := am_ hr0
   have HC0 := am_ hc0
   clear hr0 hc0
   have hq : ∀ W : World, (binOp .eql 33 (.slice (some ad0) l0.length c0) (.slice none 0 0)).run Try.prog W = .ok (.bool false) W := fun W => Lib.run_eql_slice_nil W 33 3 (some ad0) l0.length c0 0 0 Try.underlying33
   have HB := am_ (Below.refl w.heap.size w)
   obtain ⟨y101, hy101⟩ : ∃ y_ : List (Int), y_ = ([] : List (Int)) := ⟨_, rfl⟩
   have Ny101 := am_ hy101
   obtain ⟨y104, hy104⟩ : ∃ y_ : List (Int), y_ = y101 ++ l0 := ⟨_, rfl⟩
   have Ny104 := am_ hy104
   have Nend := am_ (show y104 = l0 by rw [hy104, hy101]; rfl)
   have Nlim := am_ (show y101.length + l0.length < 17592186044416 by rw [hy101]; simpa using LMc4.out)
   clear hy101 hy104
   go_enter Try.func78, Try.ntmps78
   go_wp2_with (first | ((with_reducible refine gate_dst (N := 5) rfl ?_); refine Kd.R_lit (Kd.int .i64) _ 3 ?hg (N := 5) ?hd (xs := ([] : List (Int))) (inner := []) (ok := fun _ => True) (okp := fun _ => True) ?hr ?hp (fun _ hk => hk) trivial (Below.refl _ _) (Nat.le_refl _) (by simp) ?_; (case hd => rfl); (case hg => rfl); (case hr => first | (go_simp; done) | (go_simp; rfl)); (case hp => exact (Reps.none _ _)); intro v102 w5 ho6 hb hg_ hnew_; clear hg_ hnew_; (first | rw [← Ny101.out] at ho6 | (simp only [Int.reduceToNat] at ho6; rw [← Ny101.out] at ho6)); have n0_ := am_ (Kd.R_lower ho6 (below_size qz1_)); have n1_ := am_ (below_step qz1_ hb); clear HB; have HO103 := n0_; have HB := n1_; clear n0_ n1_; clear hb ho6) | ((with_reducible refine gate_builtin (b := .append) (xs := #[.tmp 5, .tmp 6]) rfl ?_); at_builtin; refine Kd.R_append_rows (Kd.int .i64) (w0 := w) w.heap.size rfl (.tmp 5) (.tmp 6) 33 3 (.int .i64 0) 8 rfl Try.underlying33 info3 rfl (by decide) (by omega) v102 y101 l0 _ _ _ (fun _ => True) (fun _ => False) rfl rfl ?aO ?aR (fun _ _ h => h) (fun _ h => h.elim) ?aF ?aB ?aS ?aL ?_; (case aR => exact qc_ (Kd.C_below HR0.out HB.out)); (case aB => exact qz1_); (case aF => exact (fun _ _ => trivial)); (case aO => exact (by (with_reducible repeat (first | apply Kd.R_alloc | apply Kd.R_drewN | apply Kd.R_drew)); exact HO103.out)); (case aS => exact (below_size qz1_)); (case aL => have := Nlim.out; omega); intro v105 w7 ho hb hg hat; rw [← Ny104.out] at ho; have n0_ := am_ (hb); have n1_ := am_ (ho); clear HB; clear HO103; have HB := n0_; have HO106 := n1_; clear n0_ n1_; clear ho hb hg hat))
   go_ret
   exact ⟨_, (by first | rfl | (simp; done)), (by rw [← Nend.out]; (with_reducible repeat (first | apply Kd.R_alloc | apply Kd.R_drewN | apply Kd.R_drew)); exact HO106.out), qz1_⟩
 ·
  rw [if_neg c4] at h; exact absurd h (by simp)


/-! ### impl_Circuit_others: function 79 -/
def impl_Circuit_others.l0 : Nat → List Int → List Int → List (S115) → Int → Int → Option (List Int)
 | 0, _, _, _, _, _ => none
 | k + 1, x1, x5, x10, x11, x12 => if x12 < x11 then (if 0 ≤ x12 then (if x12 < (x10.length : Int) then (if ((rd_T115 x10 x12).f0) = 2 then (impl_Circuit_others.l0 k x1 x5 x10 x11 (wrap64 (x12 + 1))) else (if x12 < (x1.length : Int) then (if x5.length < 17592186044416 then (impl_Circuit_others.l0 k x1 (x5 ++ [rd x1 x12]) x10 x11 (wrap64 (x12 + 1))) else (none)) else (none))) else (none)) else (none)) else (some x5)
def impl_Circuit_others.f (k : Nat) (l0_0 : List (S115)) (l1 : List Int) : Option (List Int) := impl_Circuit_others.l0 k l1 (([] : List Int)) l0_0 (l0_0.length : Int) 0
theorem impl_Circuit_others.mono_l : ∀ k, (∀ y0 y1 y2 y3 y4, LeO (impl_Circuit_others.l0 k y0 y1 y2 y3 y4) (impl_Circuit_others.l0 (k + 1) y0 y1 y2 y3 y4))
 | 0 => fun _ _ _ _ _ r h => by simp [impl_Circuit_others.l0] at h
 | k + 1 => by
  have ih0 := impl_Circuit_others.mono_l k
  ·
   intro y0 y1 y2 y3 y4
   unfold impl_Circuit_others.l0
   repeat' first
   | (with_reducible exact ih0 _ _ _ _ _)
   | (with_reducible exact LeO.refl _)
   | (with_reducible exact LeO.none _)
   | (with_reducible refine LeO.ite ?_ ?_)
   | (with_reducible refine LeO.bind ?_ (fun _ => ?_))
   | exact ih0 _ _ _ _ _
   | exact LeO.none _
   | refine LeO.ite ?_ ?_
   | refine LeO.bind ?_ (fun _ => ?_)
theorem impl_Circuit_others.mono : ∀ a0 a1 k, LeO (impl_Circuit_others.f k a0 a1) (impl_Circuit_others.f (k + 1) a0 a1) := by
 intro a0 a1 k
 have ih0 := impl_Circuit_others.mono_l k
 unfold impl_Circuit_others.f
 repeat' first
   | (with_reducible exact ih0 _ _ _ _ _)
   | (with_reducible exact LeO.refl _)
   | (with_reducible exact LeO.none _)
   | (with_reducible refine LeO.ite ?_ ?_)
   | (with_reducible refine LeO.bind ?_ (fun _ => ?_))
   | exact ih0 _ _ _ _ _
   | exact LeO.none _
   | refine LeO.ite ?_ ?_
   | refine LeO.bind ?_ (fun _ => ?_)
set_option maxHeartbeats 8000000 in
set_option maxRecDepth 100000 in
theorem impl_Circuit_others.calls (k : Nat) (A0_0 : Option Addr) (c0_0 : Nat) (l0_0 : List (S115)) (A1 : Option Addr) (c1 : Nat) (l1 : List Int) (r : List Int) (w : World) (hr0_0 : Kd.C k115 w A0_0 l0_0.length l0_0) (hc0_0 : l0_0.length ≤ c0_0) (hr1 : Kd.C (Kd.int .i64) w A1 l1.length l1) (hc1 : l1.length ≤ c1) (h : impl_Circuit_others.f k l0_0 l1 = some r) :
  Calls Try.prog 79 #[.agg #[.slice A0_0 l0_0.length c0_0], .slice A1 l1.length c1] w fun e w' => ∃ v0_ : Value, e = .returned (v0_) ∧ Kd.R (Kd.int .i64) 3 w' w.heap.size (fun _ => True) v0_ r ∧ Below w.heap.size w w' := by
 have hu63 := Try.underlying63
 have hu115 := Try.underlying115
 have HR0_0 := am_ hr0_0
 have HC0_0 := am_ hc0_0
 clear hr0_0 hc0_0
 have HR1 := am_ hr1
 have HC1 := am_ hc1
 clear hr1 hc1
 have HB := am_ (Below.refl w.heap.size w)
 have H : (impl_Circuit_others.l0 k l1 (([] : List Int)) l0_0 (l0_0.length : Int) 0) = some r := h
 clear h
 obtain ⟨y102, hy102⟩ : ∃ y_ : List Int, y_ = (([] : List Int)) := ⟨_, rfl⟩
 replace H : (impl_Circuit_others.l0 k l1 y102 l0_0 (l0_0.length : Int) 0) = some r := by first | (rw [hy102]; with_reducible exact H) | (have H2_ := (Option.bind_some _ _).symm.trans H; rw [hy102]; with_reducible exact H2_) | (have H2_ := (Option.bind_some _ _).symm.trans H; with_reducible exact H2_) | with_reducible exact H | (rw [hy102]; exact H) | exact H
 have Ny102 := am_ hy102
 clear hy102
 have H' := am_ H
 clear H
 go_enter Try.func79, Try.ntmps79
 go_wp2_with (first | ((with_reducible refine gate_dst (N := 2) rfl ?_); refine box_event ?hg (N := 2) ?hd (cs := #[.slice A0_0 l0_0.length c0_0]) (t := 63) ?hr ?_; (case hd => rfl); (case hg => rfl); (case hr => first | (go_simp; done) | (go_simp; rfl)); intro gb101 hg w3 hbox hb; have n0_ := am_ (below_step qz1_ hb); have n1_ := am_ (hbox); have n2_ := am_ ((by rw [hg]; exact (below_size qz1_) : w.heap.size ≤ gb101)); have n3_ := am_ ((by rw [hg]; exact (below_size qz1_) : w.heap.size ≤ gb101)); clear HB; have HB := n0_; have BK101 := n1_; have GW101 := n2_; have GE101 := n3_; clear n0_ n1_ n2_ n3_; clear hb hbox hg) | ((with_reducible refine gate_dst (N := 8) rfl ?_); refine Kd.R_lit (Kd.int .i64) _ 3 ?hg (N := 8) ?hd (xs := ([] : List Int)) (inner := []) (ok := fun _ => True) (okp := fun _ => True) ?hr ?hp (fun _ hk => hk) trivial (Below.refl _ _) (Nat.le_refl _) (by simp) ?_; (case hd => rfl); (case hg => rfl); (case hr => first | (go_simp; done) | (go_simp; rfl)); (case hp => exact (Reps.none _ _)); intro v103 w4 ho5 hb hg_ hnew_; clear hg_ hnew_; (first | rw [← Ny102.out] at ho5 | (simp only [Int.reduceToNat] at ho5; rw [← Ny102.out] at ho5)); have n0_ := am_ (Kd.R_lower ho5 (below_size qz10_)); have n1_ := am_ (blk_below (g := gb101) (o := .cells #[.slice A0_0 l0_0.length c0_0] 63 (0, 0)) qz11_ hb); have n2_ := am_ (below_step qz10_ hb); clear BK101; clear HB; have HO104 := n0_; have BK101 := n1_; have HB := n2_; clear n0_ n1_ n2_; clear hb ho5; have hcz6_0 : w4.cell? ⟨gb101, 0, none⟩ = some (.slice A0_0 l0_0.length c0_0) := (blk_cell BK101.out 0).trans rfl; have hfz6_0 := blk_frozen BK101.out 0))
 go_loopg [5, 12] k (fun kq v5 v12 w' => ∃ (x5_1 : List Int) (x12_1 : Int), v12 = .int .i64 x12_1 ∧ Aside0 (impl_Circuit_others.l0 kq l1 x5_1 l0_0 (l0_0.length : Int) x12_1 = some r) ∧ Aside0 (kq ≤ k) ∧ Aside0 (Kd.R (Kd.int .i64) 3 w' w.heap.size (fun _ => True) v5 x5_1) ∧ Aside0 (w'.heap[gb101]? = some (.cells #[(.slice A0_0 l0_0.length c0_0)] 63 (0, 0))) ∧ Aside0 (Below w.heap.size w w'))
 case atStart => exact ⟨(y102), (0), qz2_, H', ⟨Nat.le_refl _⟩, ⟨qz15_⟩, ⟨qz11_⟩, ⟨qz10_⟩⟩
 case round =>
  clear H'
  try clear c1
  try clear p2
  try clear hcz6_0
  try clear hfz6_0
  obtain ⟨x5_1, x12_1, rfl, HA, HK1, HO_5, BK101, HB⟩ := hrel
  cases gk with
  | zero => exact absurd HA.out (by simp [impl_Circuit_others.l0])
  | succ k1 =>
   have H := HA.out
   clear HA
   simp only [impl_Circuit_others.l0] at H
   by_cases c7 : x12_1 < (l0_0.length : Int)
   ·
    rw [if_pos c7] at H
    have c7b0 : decide (x12_1 < (l0_0.length : Int)) = true := decide_eq_true c7
    clear c7
    by_cases c8 : 0 ≤ x12_1
    ·
     rw [if_pos c8] at H
     have c8b0 : decide (0 ≤ x12_1) = true := decide_eq_true c8
     clear c8
     by_cases c9 : x12_1 < (l0_0.length : Int)
     ·
      rw [if_pos c9] at H
      have c9b0 : decide (x12_1 < (l0_0.length : Int)) = true := decide_eq_true c9
      clear c9
      by_cases c10 : ((rd_T115 l0_0 x12_1).f0) = 2
      ·
       rw [if_pos c10] at H
       have c10b0 : (((rd_T115 l0_0 x12_1).f0) == 2) = true := beq_iff_eq.mpr c10
       have c10b1 : (((rd_T115 l0_0 x12_1).f0) != 2) = false := bne_eq_false_iff_eq.mpr c10
       clear c10
       have H' := am_ H
       clear H
       have p105 : 0 ≤ (x12_1 : Int) := of_decide_eq_true qz0_
       have q105 : x12_1 < (l0_0.length : Int) := of_decide_eq_true qz0_
       obtain ⟨ad105, e105, hx105_0, hx105_1, hx105_2, hx105_3⟩ := at_T115 HR0_0.out x12_1 p105 q105
       cases e105
       replace hx105_0 := (HB.out.cell (World.block_lt_of_cell? w _ hx105_0)).trans hx105_0
       replace hx105_1 := (HB.out.cell (World.block_lt_of_cell? w _ hx105_1)).trans hx105_1
       replace hx105_2 := (HB.out.cell (World.block_lt_of_cell? w _ hx105_2)).trans hx105_2
       replace hx105_3 := (HB.out.cell (World.block_lt_of_cell? w _ hx105_3)).trans hx105_3
       replace p105 := eq_true p105
       replace q105 := eq_true q105
       go_wp2_with (first | ((with_reducible refine gate_dst (N := 7) rfl ?_); refine box_event ?hg (N := 7) ?hd (cs := #[.int .i64 0, .int .i64 0, .int .i64 0, .int .i64 0]) (t := 115) ?hr ?_; (case hd => rfl); (case hg => rfl); (case hr => first | (go_simp; done) | (go_simp; rfl)); intro gb106 hg w11 hbox hb; have n0_ := am_ (Kd.R_below qz54_ hb); have n1_ := am_ (blk_below (g := gb101) (o := .cells #[.slice (some ad105) l0_0.length c0_0] 63 (0, 0)) qz11_ hb); have n2_ := am_ (below_step qz10_ hb); have n3_ := am_ (hbox); have n4_ := am_ ((by rw [hg]; exact (below_size qz10_) : w.heap.size ≤ gb106)); have n5_ := am_ ((by rw [hg]; exact (below_size qz10_) : w.heap.size ≤ gb106)); have n6_ := am_ ((by rw [hg]; exact Nat.ne_of_lt (blk_lt (g := gb101) (o := .cells #[.slice (some ad105) l0_0.length c0_0] 63 (0, 0)) qz11_) : gb101 ≠ gb106)); have n7_ := am_ ((by rw [hg]; exact Nat.ne_of_gt (blk_lt (g := gb101) (o := .cells #[.slice (some ad105) l0_0.length c0_0] 63 (0, 0)) qz11_) : gb106 ≠ gb101)); clear HO_5; clear BK101; clear HB; have HO_5 := n0_; have BK101 := n1_; have HB := n2_; have BK106 := n3_; have GW106 := n4_; have GE106 := n5_; have NB101_106 := n6_; have NB106_101 := n7_; clear n0_ n1_ n2_ n3_ n4_ n5_ n6_ n7_; clear hb hbox hg; have hnb12 := NB106_101.out; have hnc12 := NB101_106.out; have hcz13_0 : w11.cell? ⟨gb106, 0, none⟩ = some (.int .i64 0) := (blk_cell BK106.out 0).trans rfl; have hcz13_1 : w11.cell? ⟨gb106, 1, none⟩ = some (.int .i64 0) := (blk_cell BK106.out 1).trans rfl; have hcz13_2 : w11.cell? ⟨gb106, 2, none⟩ = some (.int .i64 0) := (blk_cell BK106.out 2).trans rfl; have hcz13_3 : w11.cell? ⟨gb106, 3, none⟩ = some (.int .i64 0) := (blk_cell BK106.out 3).trans rfl; have hfz13_0 := blk_frozen BK106.out 0; have hfz13_1 := blk_frozen BK106.out 1; have hfz13_2 := blk_frozen BK106.out 2; have hfz13_3 := blk_frozen BK106.out 3))
       go_roundg k1
       case measure => have := HK1.out; omega
       case rel => exact ⟨(x5_1), (wrap64 (x12_1 + 1)), qz2_, H', ⟨qz3_⟩, ⟨by (with_reducible repeat (first | apply Kd.R_alloc | apply Kd.R_drewN | apply Kd.R_drew)); exact Kd.R_mono (Kd.R_far (p := ⟨gb106, 3, none⟩) (Kd.R_far (p := ⟨gb106, 2, none⟩) (Kd.R_far (p := ⟨gb106, 1, none⟩) (Kd.R_far (p := ⟨gb106, 0, none⟩) (Kd.R_types HO_5.out BK106.out (by decide)) (fun _ hk => hk.2) (.int .i64 ((rd_T115 l0_0 x12_1).f0))) (fun _ hk => hk.2) (.int .i64 ((rd_T115 l0_0 x12_1).f1))) (fun _ hk => hk.2) (.int .i64 ((rd_T115 l0_0 x12_1).f2))) (fun _ hk => hk.2) (.int .i64 ((rd_T115 l0_0 x12_1).f3))) (fun _ hk => trivial)⟩, ⟨qz24_⟩, ⟨qz23_⟩⟩
      ·
       rw [if_neg c10] at H
       have c10b0 : (((rd_T115 l0_0 x12_1).f0) == 2) = false := beq_eq_false_iff_ne.mpr c10
       have c10b1 : (((rd_T115 l0_0 x12_1).f0) != 2) = true := bne_iff_ne.mpr c10
       by_cases c14 : x12_1 < (l1.length : Int)
       ·
        rw [if_pos c14] at H
        have c14b0 : decide (x12_1 < (l1.length : Int)) = true := decide_eq_true c14
        clear c14
        by_cases c15 : x5_1.length < 17592186044416
        ·
         rw [if_pos c15] at H
         have LMc15 := am_ c15
         clear c15
         obtain ⟨y108, hy108⟩ : ∃ y_ : List Int, y_ = (x5_1 ++ [rd l1 x12_1]) := ⟨_, rfl⟩
         replace H : (impl_Circuit_others.l0 k1 l1 y108 l0_0 (l0_0.length : Int) (wrap64 (x12_1 + 1))) = some r := by first | (rw [hy108]; with_reducible exact H) | (have H2_ := (Option.bind_some _ _).symm.trans H; rw [hy108]; with_reducible exact H2_) | (have H2_ := (Option.bind_some _ _).symm.trans H; with_reducible exact H2_) | with_reducible exact H | (rw [hy108]; exact H) | exact H
         have Ny108 := am_ hy108
         clear hy108
         have H' := am_ H
         clear H
         have p105 : 0 ≤ (x12_1 : Int) := of_decide_eq_true qz0_
         have q105 : x12_1 < (l0_0.length : Int) := of_decide_eq_true qz0_
         obtain ⟨ad105, e105, hx105_0, hx105_1, hx105_2, hx105_3⟩ := at_T115 HR0_0.out x12_1 p105 q105
         cases e105
         replace hx105_0 := (HB.out.cell (World.block_lt_of_cell? w _ hx105_0)).trans hx105_0
         replace hx105_1 := (HB.out.cell (World.block_lt_of_cell? w _ hx105_1)).trans hx105_1
         replace hx105_2 := (HB.out.cell (World.block_lt_of_cell? w _ hx105_2)).trans hx105_2
         replace hx105_3 := (HB.out.cell (World.block_lt_of_cell? w _ hx105_3)).trans hx105_3
         replace p105 := eq_true p105
         replace q105 := eq_true q105
         go_wp2_with (first | ((with_reducible refine gate_dst (N := 7) rfl ?_); refine box_event ?hg (N := 7) ?hd (cs := #[.int .i64 0, .int .i64 0, .int .i64 0, .int .i64 0]) (t := 115) ?hr ?_; (case hd => rfl); (case hg => rfl); (case hr => first | (go_simp; done) | (go_simp; rfl)); intro gb106 hg w16 hbox hb; have n0_ := am_ (Kd.R_below qz54_ hb); have n1_ := am_ (blk_below (g := gb101) (o := .cells #[.slice (some ad105) l0_0.length c0_0] 63 (0, 0)) qz11_ hb); have n2_ := am_ (below_step qz10_ hb); have n3_ := am_ (hbox); have n4_ := am_ ((by rw [hg]; exact (below_size qz10_) : w.heap.size ≤ gb106)); have n5_ := am_ ((by rw [hg]; exact (below_size qz10_) : w.heap.size ≤ gb106)); have n6_ := am_ ((by rw [hg]; exact Nat.ne_of_lt (blk_lt (g := gb101) (o := .cells #[.slice (some ad105) l0_0.length c0_0] 63 (0, 0)) qz11_) : gb101 ≠ gb106)); have n7_ := am_ ((by rw [hg]; exact Nat.ne_of_gt (blk_lt (g := gb101) (o := .cells #[.slice (some ad105) l0_0.length c0_0] 63 (0, 0)) qz11_) : gb106 ≠ gb101)); clear HO_5; clear BK101; clear HB; have HO_5 := n0_; have BK101 := n1_; have HB := n2_; have BK106 := n3_; have GW106 := n4_; have GE106 := n5_; have NB101_106 := n6_; have NB106_101 := n7_; clear n0_ n1_ n2_ n3_ n4_ n5_ n6_ n7_; clear hb hbox hg; have hnb17 := NB106_101.out; have hnc17 := NB101_106.out; have hcz18_0 : w16.cell? ⟨gb106, 0, none⟩ = some (.int .i64 0) := (blk_cell BK106.out 0).trans rfl; have hcz18_1 : w16.cell? ⟨gb106, 1, none⟩ = some (.int .i64 0) := (blk_cell BK106.out 1).trans rfl; have hcz18_2 : w16.cell? ⟨gb106, 2, none⟩ = some (.int .i64 0) := (blk_cell BK106.out 2).trans rfl; have hcz18_3 : w16.cell? ⟨gb106, 3, none⟩ = some (.int .i64 0) := (blk_cell BK106.out 3).trans rfl; have hfz18_0 := blk_frozen BK106.out 0; have hfz18_1 := blk_frozen BK106.out 1; have hfz18_2 := blk_frozen BK106.out 2; have hfz18_3 := blk_frozen BK106.out 3; have p107 : 0 ≤ (x12_1 : Int) := of_decide_eq_true qz0_; have q107 : x12_1 < (l1.length : Int) := of_decide_eq_true qz0_; obtain ⟨ad107, e107, hx107_0⟩ := Kd.at_int HR1.out x12_1 p107 q107; cases e107; have hn107_0 : ad107.block ≠ gb106 := Nat.ne_of_lt (Nat.lt_of_lt_of_le qz17_ GW106.out); have hn107_1 : ad107.block ≠ gb106 := Nat.ne_of_lt (Nat.lt_of_lt_of_le qz17_ GW106.out); have hn107_2 : ad107.block ≠ gb106 := Nat.ne_of_lt (Nat.lt_of_lt_of_le qz17_ GW106.out); have hn107_3 : ad107.block ≠ gb106 := Nat.ne_of_lt (Nat.lt_of_lt_of_le qz17_ GW106.out); replace hx107_0 := (HB.out.cell (World.block_lt_of_cell? w _ hx107_0)).trans hx107_0; replace hx107_0 := (cell_far (p := ⟨gb106, 0, none⟩) qz18_ (.int .i64 ((rd_T115 l0_0 x12_1).f0))).trans hx107_0; replace hx107_0 := (cell_far (p := ⟨gb106, 1, none⟩) qz19_ (.int .i64 ((rd_T115 l0_0 x12_1).f1))).trans hx107_0; replace hx107_0 := (cell_far (p := ⟨gb106, 2, none⟩) qz20_ (.int .i64 ((rd_T115 l0_0 x12_1).f2))).trans hx107_0; replace hx107_0 := (cell_far (p := ⟨gb106, 3, none⟩) qz21_ (.int .i64 ((rd_T115 l0_0 x12_1).f3))).trans hx107_0; clear hn107_0; clear hn107_1; clear hn107_2; clear hn107_3; replace p107 := eq_true p107; replace q107 := eq_true q107) | ((with_reducible refine gate_builtin (b := .append) (xs := #[.tmp 20, .tmp 25]) rfl ?_); at_builtin; refine Kd.R_append (Kd.int .i64) (w0 := w) w.heap.size rfl (.tmp 20) (.tmp 25) 33 3 (.int .i64 0) 8 rfl Try.underlying33 info3 rfl (by decide) (by omega) u5 x5_1 (rd l1 x12_1) [.int .i64 (rd l1 x12_1)] (fun _ => True) (fun _ => False) rfl qz22_ ?aP (fun _ hk => hk.elim) ?aF ?aO ?aB ?aS ?aL ?_; (case aP => exact rfl); (case aB => exact qz23_); (case aF => exact (fun _ _ => trivial)); (case aO => exact (by (with_reducible repeat (first | apply Kd.R_alloc | apply Kd.R_drewN | apply Kd.R_drew)); exact Kd.R_mono (Kd.R_far (p := ⟨gb106, 3, none⟩) (Kd.R_far (p := ⟨gb106, 2, none⟩) (Kd.R_far (p := ⟨gb106, 1, none⟩) (Kd.R_far (p := ⟨gb106, 0, none⟩) (Kd.R_types HO_5.out BK106.out (by decide)) (fun _ hk => hk.2) (.int .i64 ((rd_T115 l0_0 x12_1).f0))) (fun _ hk => hk.2) (.int .i64 ((rd_T115 l0_0 x12_1).f1))) (fun _ hk => hk.2) (.int .i64 ((rd_T115 l0_0 x12_1).f2))) (fun _ hk => hk.2) (.int .i64 ((rd_T115 l0_0 x12_1).f3))) (fun _ hk => trivial))); (case aS => exact (below_size qz23_)); (case aL => have := LMc15.out; omega); intro v109 w19 ho hb hg hat; rw [← Ny108.out] at ho; have n0_ := am_ (blk_grown (g := gb101) (o := .cells #[.slice (some ad105) l0_0.length c0_0] 63 (0, 0)) qz24_ hg (Kd.R_ne HO_5.out BK101.out (by decide))); have n1_ := am_ (blk_grown (g := gb106) (o := .cells #[.int .i64 ((rd_T115 l0_0 x12_1).f0), .int .i64 ((rd_T115 l0_0 x12_1).f1), .int .i64 ((rd_T115 l0_0 x12_1).f2), .int .i64 ((rd_T115 l0_0 x12_1).f3)] 115 (0, 0)) (by (with_reducible repeat (first | refine blk_drewN ?_ _ | refine blk_drew ?_ | refine blk_alloc ?_ _)); refine blk_put (cs := #[.int .i64 ((rd_T115 l0_0 x12_1).f0), .int .i64 ((rd_T115 l0_0 x12_1).f1), .int .i64 ((rd_T115 l0_0 x12_1).f2), .int .i64 0]) ?_ 3 _ rfl; (with_reducible repeat (first | refine blk_drewN ?_ _ | refine blk_drew ?_ | refine blk_alloc ?_ _)); refine blk_put (cs := #[.int .i64 ((rd_T115 l0_0 x12_1).f0), .int .i64 ((rd_T115 l0_0 x12_1).f1), .int .i64 0, .int .i64 0]) ?_ 2 _ rfl; (with_reducible repeat (first | refine blk_drewN ?_ _ | refine blk_drew ?_ | refine blk_alloc ?_ _)); refine blk_put (cs := #[.int .i64 ((rd_T115 l0_0 x12_1).f0), .int .i64 0, .int .i64 0, .int .i64 0]) ?_ 1 _ rfl; (with_reducible repeat (first | refine blk_drewN ?_ _ | refine blk_drew ?_ | refine blk_alloc ?_ _)); refine blk_put (cs := #[.int .i64 0, .int .i64 0, .int .i64 0, .int .i64 0]) ?_ 0 _ rfl; (with_reducible repeat (first | refine blk_drewN ?_ _ | refine blk_drew ?_ | refine blk_alloc ?_ _)); exact BK106.out) hg (Kd.R_ne HO_5.out BK106.out (by decide))); have n2_ := am_ (hb); have n3_ := am_ (ho); clear BK101; clear BK106; clear HB; clear HO_5; have BK101 := n0_; have BK106 := n1_; have HB := n2_; have HO110 := n3_; clear n0_ n1_ n2_ n3_; clear ho hb hg hat))
         go_roundg k1
         case measure => have := HK1.out; omega
         case rel => exact ⟨(y108), (wrap64 (x12_1 + 1)), qz2_, H', ⟨qz3_⟩, ⟨(by (with_reducible repeat (first | apply Kd.R_alloc | apply Kd.R_drewN | apply Kd.R_drew)); exact HO110.out)⟩, ⟨qz11_⟩, ⟨qz23_⟩⟩
        ·
         rw [if_neg c15] at H
         exact absurd H (by simp)
       ·
        rw [if_neg c14] at H
        exact absurd H (by simp)
     ·
      rw [if_neg c9] at H
      exact absurd H (by simp)
    ·
     rw [if_neg c8] at H
     exact absurd H (by simp)
   ·
    rw [if_neg c7] at H
    have c7b0 : decide (x12_1 < (l0_0.length : Int)) = false := decide_eq_false c7
    clear c7
    obtain rfl := Option.some.inj H
    go_wp2
    go_ret
    exact ⟨_, qz5_, qz54_, qz10_⟩


/-! ### impl_WitnessOf: function 40 -/
def impl_WitnessOf.f (k : Nat) (l0_0 : List (S115)) (l1 : List Int) (l2 : List Int) : Option (List Int × List Int × Int) := (impl_RunCircuit.f k l0_0 l1 l2).bind fun bt102 => (if bt102.2 = 0 then ((slices_Clone_int_int.f l1).bind fun t106 => ((impl_Circuit_others.f k l0_0 bt102.1).bind fun t109 => (some (t106, t109, 0)))) else (some (([] : List Int), ([] : List Int), bt102.2)))
theorem impl_WitnessOf.mono : ∀ a0 a1 a2 k, LeO (impl_WitnessOf.f k a0 a1 a2) (impl_WitnessOf.f (k + 1) a0 a1 a2) := by
 intro a0 a1 a2 k
 unfold impl_WitnessOf.f
 repeat' first
   | (with_reducible exact impl_Circuit_others.mono _ _ _)
   | (with_reducible exact impl_RunCircuit.mono _ _ _ _)
   | (with_reducible exact LeO.refl _)
   | (with_reducible exact LeO.none _)
   | (with_reducible refine LeO.ite ?_ ?_)
   | (with_reducible refine LeO.bind ?_ (fun _ => ?_))
   | exact impl_Circuit_others.mono _ _ _
   | exact impl_RunCircuit.mono _ _ _ _
   | exact LeO.none _
   | refine LeO.ite ?_ ?_
   | refine LeO.bind ?_ (fun _ => ?_)
def impl_WitnessOf.T4 : Bool × List (List Nat × List Nat) := (true, [([], []), ([0], [0]), ([], []), ([], []), ([2, 3, 1], [2, 3]), ([1, 4, 0, 1], [1]), ([4, 5, 0, 1, 2, 3, 4, 5], [4]), ([6, 0, 1, 2, 3, 4, 5, 6], [])])
def impl_WitnessOf.B4 : List Nat := [0, 1, 0, 0, 15, 31, 63, 127]
theorem impl_WitnessOf.tab4 : rtab .any (opsOf Try.f40 4) = impl_WitnessOf.T4 := by kernel_rfl
theorem impl_WitnessOf.bits4 : waitsOk impl_WitnessOf.T4.2 impl_WitnessOf.B4 = true := by kernel_rfl
set_option maxHeartbeats 8000000 in
set_option maxRecDepth 100000 in
theorem impl_WitnessOf.calls (k : Nat) (A0_0 : Option Addr) (c0_0 : Nat) (l0_0 : List (S115)) (A1 : Option Addr) (c1 : Nat) (l1 : List Int) (A2 : Option Addr) (c2 : Nat) (l2 : List Int) (r1 : List Int) (r2 : List Int) (r3 : Int) (w : World) (hr0_0 : Kd.C k115 w A0_0 l0_0.length l0_0) (hc0_0 : l0_0.length ≤ c0_0) (hr1 : Kd.C (Kd.int .i64) w A1 l1.length l1) (hc1 : l1.length ≤ c1) (hr2 : Kd.C (Kd.int .i64) w A2 l2.length l2) (hc2 : l2.length ≤ c2) (h : impl_WitnessOf.f k l0_0 l1 l2 = some (r1, r2, r3)) :
  Calls Try.prog 40 #[.agg #[.slice A0_0 l0_0.length c0_0], .slice A1 l1.length c1, .slice A2 l2.length c2] w fun e w' => ∃ v0_ v1_ : Value, e = .returned (.tuple #[v0_, v1_, .int .i64 r3]) ∧ Kd.R (Kd.int .i64) 3 w' w.heap.size (fun k_ => some k_ ≠ (v1_ : Value).ownBlock) v0_ r1 ∧ Kd.R (Kd.int .i64) 3 w' w.heap.size (fun k_ => some k_ ≠ (v0_ : Value).ownBlock) v1_ r2 ∧ Below w.heap.size w w' := by
 have hu63 := Try.underlying63
 have HR0_0 := am_ hr0_0
 have HC0_0 := am_ hc0_0
 clear hr0_0 hc0_0
 have HR1 := am_ hr1
 have HC1 := am_ hc1
 clear hr1 hc1
 have HR2 := am_ hr2
 have HC2 := am_ hc2
 clear hr2 hc2
 have HB := am_ (Below.refl w.heap.size w)
 have H : ((impl_RunCircuit.f k l0_0 l1 l2).bind fun bt102 => (if bt102.2 = 0 then ((slices_Clone_int_int.f l1).bind fun t106 => ((impl_Circuit_others.f k l0_0 bt102.1).bind fun t109 => (some (t106, t109, 0)))) else (some (([] : List Int), ([] : List Int), bt102.2)))) = some (r1, r2, r3) := h
 clear h
 replace H := Option.bind_eq_some_iff.mp H
 obtain ⟨⟨t102, t105⟩, A40, H⟩ := H
 replace H : (if t105 = 0 then ((slices_Clone_int_int.f l1).bind fun t106 => ((impl_Circuit_others.f k l0_0 t102).bind fun t109 => (some (t106, t109, 0)))) else (some (([] : List Int), ([] : List Int), t105))) = some (r1, r2, r3) := H
 have A4 := am_ A40
 clear A40
 by_cases c5 : t105 = 0
 ·
  rw [if_pos c5] at H
  have c5b0 : (t105 == 0) = true := beq_iff_eq.mpr c5
  have c5b1 : (t105 != 0) = false := bne_eq_false_iff_eq.mpr c5
  clear c5
  replace H := Option.bind_eq_some_iff.mp H
  obtain ⟨t106, A60, H⟩ := H
  replace H : ((impl_Circuit_others.f k l0_0 t102).bind fun t109 => (some (t106, t109, 0))) = some (r1, r2, r3) := H
  have A6 := am_ A60
  clear A60
  replace H := Option.bind_eq_some_iff.mp H
  obtain ⟨t109, A70, H⟩ := H
  replace H : (some (t106, t109, 0)) = some (r1, r2, r3) := H
  have A7 := am_ A70
  clear A70
  simp only [Option.some.injEq, Prod.mk.injEq] at H
  obtain ⟨rfl, rfl, rfl⟩ := H
  go_enter Try.func40, Try.ntmps40
  try go_wp2_with (first | ((with_reducible refine gate_dst (N := 3) rfl ?_); refine box_event ?hg (N := 3) ?hd (cs := #[.slice A0_0 l0_0.length c0_0]) (t := 63) ?hr ?_; (case hd => rfl); (case hg => rfl); (case hr => first | (go_simp; done) | (go_simp; rfl)); intro gb101 hg w8 hbox hb; have n0_ := am_ (below_step qz1_ hb); have n1_ := am_ (hbox); have n2_ := am_ ((by rw [hg]; exact (below_size qz1_) : w.heap.size ≤ gb101)); have n3_ := am_ ((by rw [hg]; exact (below_size qz1_) : w.heap.size ≤ gb101)); clear HB; have HB := n0_; have BK101 := n1_; have GW101 := n2_; have GE101 := n3_; clear n0_ n1_ n2_ n3_; clear hb hbox hg; have hcz9_0 : w8.cell? ⟨gb101, 0, none⟩ = some (.slice A0_0 l0_0.length c0_0) := (blk_cell BK101.out 0).trans rfl; have hfz9_0 := blk_frozen BK101.out 0) | ((with_reducible refine gate_callee (f := 36) rfl ?_); refine goesL_ (some 15) rfl rfl Try.func36 (by kernel_rfl) rfl #[.agg #[.slice A0_0 l0_0.length c0_0], .slice A1 l1.length c1, .slice A2 l2.length c2] rfl qz9_ ?_; (with_reducible refine (impl_RunCircuit.calls k _ _ l0_0 _ _ l1 _ _ l2 t102 t105 _ ?side1 ?side2 ?side3 ?side4 ?side5 ?side6 A4.out).mono ?_); (case side1 => exact qc_ (Kd.C_below HR0_0.out HB.out)); (case side2 => exact HC0_0.out); (case side3 => exact qc_ (Kd.C_below HR1.out HB.out)); (case side4 => exact HC1.out); (case side5 => exact qc_ (Kd.C_below HR2.out HB.out)); (case side6 => exact HC2.out); rintro e w10 ⟨v103, rfl, ho0, hb⟩; refine ⟨_, rfl, ?_⟩; have n0_ := am_ (Kd.R_lower ho0 (below_size qz10_)); have n1_ := am_ (blk_below (g := gb101) (o := .cells #[.slice A0_0 l0_0.length c0_0] 63 (0, 0)) qz11_ hb); have n2_ := am_ (below_step qz10_ hb); clear BK101; clear HB; have HO104 := n0_; have BK101 := n1_; have HB := n2_; clear n0_ n1_ n2_; (try clear hb); (try clear hb2); (try clear hk); (try clear hi); (try clear ho0)))
  have n0_ := am_ (Kd.R_drew HO104.out)
  have n1_ := am_ (blk_drew BK101.out)
  have n2_ := am_ (below_drew1 HB.out)
  clear HO104
  clear BK101
  clear HB
  have HO104 := n0_
  have BK101 := n1_
  have HB := n2_
  clear n0_ n1_ n2_
  refine start_ (n := 8) (S := fun w' => w'.cell? ⟨gb101, 0, none⟩ = some (.slice A0_0 l0_0.length c0_0)) (ds := []) #[false, false, false, false, false, false, false, false] (by kernel_rfl) rfl rfl ((blk_cell BK101.out 0).trans rfl) (fun hHeld => ?_); refine with_tabW impl_WitnessOf.tab4 impl_WitnessOf.bits4 (fun HT_ HW_ => ?_)
  generalize w10.drew = w11 at HO104 BK101 HB hHeld ⊢
  refine pure_ (i := 0) (N := some 21) (v := ?_) (a' := ?_) #[true, false, false, false, false, false, false, false] rfl rfl (any_of HT_.out (by kernel_rfl)) (fun _ _ _ h => h) (Or.inl ⟨(by rfl), ?_⟩) ?_ ?_
  rotate_left
  ·
   intro w'
   go_simp
   with_reducible rfl
  rotate_left
  ·
   simp only [Act.put, List.setIfInBounds_toArray, List.set_cons_zero, List.set_cons_succ, i64_w, i32_w]
   rfl
  refine pure_ (i := 3) (N := some 24) (v := ?_) (a' := ?_) #[true, false, false, true, false, false, false, false] rfl rfl (any_of HT_.out (by kernel_rfl)) (fun _ _ _ h => h) (Or.inl ⟨(by rfl), ?_⟩) ?_ ?_
  rotate_left
  ·
   intro w'
   go_simp
   with_reducible rfl
  rotate_left
  ·
   simp only [Act.put, List.setIfInBounds_toArray, List.set_cons_zero, List.set_cons_succ, i64_w, i32_w]
   rfl
  refine take_ (i := 2) (N := some 23) (v := ?_) (a' := ?_) #[true, false, true, true, false, false, false, false] rfl rfl (take_ofW HT_.out HW_.out (by kernel_rfl)) (fun _ _ _ h => h) (Or.inl ⟨(by rfl), ?_⟩) hHeld ?_ ?_
  rotate_left
  ·
   intro w' s0
   go_simp
   with_reducible rfl
  rotate_left
  ·
   simp only [Act.put, List.setIfInBounds_toArray, List.set_cons_zero, List.set_cons_succ, i64_w, i32_w]
   rfl
  refine one_ (i := 1) (N := some 22) #[true, true, true, true, false, false, false, false] rfl rfl (one_of HT_.out (by kernel_rfl)) (by decide) (fun K hK => ?_)
  refine goes_ Try.func78 (by kernel_rfl) rfl #[.slice A1 l1.length c1] (by rfl) rfl rfl qz9_ ?_
  with_reducible refine (slices_Clone_int_int.calls _ _ l1 t106 _ ?side1 ?side2 A6.out).mono ?_
  (case side1 => exact qc_ (Kd.C_below HR1.out HB.out))
  (case side2 => exact HC1.out)
  rintro e w12 ⟨v107, rfl, ho0, hb⟩
  refine ⟨_, rfl, ?_⟩
  have n0_ := am_ (Kd.R_elder' qz15_ (Kd.R_base ho0) hb)
  have n1_ := am_ (Kd.R_lower (Kd.R_new' ho0 (Kd.R_lt qz15_)) (below_size qz10_))
  have n2_ := am_ (blk_below (g := gb101) (o := .cells #[.slice A0_0 l0_0.length c0_0] 63 (0, 0)) qz11_ hb)
  have n3_ := am_ (below_step qz10_ hb)
  clear HO104
  clear BK101
  clear HB
  have HO104 := n0_
  have HO108 := n1_
  have BK101 := n2_
  have HB := n3_
  clear n0_ n1_ n2_ n3_
  (try clear hb)
  (try clear hb2)
  (try clear hk)
  (try clear hi)
  (try clear ho0)
  obtain ⟨Ao13, co13, eo13⟩ := Kd.R_slice HO104.out
  (first | subst eo13 | (injection eo13 with f1_ f2_ f3_; have f4_ := f1_.symm; have f5_ := f3_.symm; clear f1_ f2_ f3_; subst f4_; subst f5_))
  refine hK.out _ _ ((blk_cell BK101.out 0).trans rfl) (fun hHeld => ?_)
  clear hK K
  refine norm_ (a' := ?_) ?_ ?_
  rotate_left
  ·
   show Act.put _ (some 22) _ = _
   simp only [Act.put, List.setIfInBounds_toArray, List.set_cons_zero, List.set_cons_succ, i64_w, i32_w]
   rfl
  refine one_ (i := 4) (N := some 25) #[true, true, true, true, true, false, false, false] rfl rfl (one_of HT_.out (by kernel_rfl)) (by decide) (fun K hK => ?_)
  refine goes_ Try.func79 (by kernel_rfl) rfl #[.agg #[.slice A0_0 l0_0.length c0_0], .slice Ao13 t102.length co13] (by rfl) rfl rfl qz9_ ?_
  with_reducible refine (impl_Circuit_others.calls k _ _ l0_0 _ _ t102 t109 _ ?side1 ?side2 ?side3 ?side4 A7.out).mono ?_
  (case side1 => exact qc_ (Kd.C_below HR0_0.out HB.out))
  (case side2 => exact HC0_0.out)
  (case side3 => exact qc_ (Kd.R_reads' HO104.out).2.2)
  (case side4 => exact (Kd.R_reads' HO104.out).2.1)
  rintro e w14 ⟨v110, rfl, ho0, hb⟩
  refine ⟨_, rfl, ?_⟩
  have n0_ := am_ (Kd.R_elder' qz15_ (Kd.R_base ho0) hb)
  have n1_ := am_ (Kd.R_elder' qz72_ (Kd.R_base ho0) hb)
  have n2_ := am_ (Kd.R_lower (Kd.R_new' (Kd.R_new' ho0 (Kd.R_lt qz15_)) (Kd.R_lt qz72_)) (below_size qz10_))
  have n3_ := am_ (blk_below (g := gb101) (o := .cells #[.slice A0_0 l0_0.length c0_0] 63 (0, 0)) qz11_ hb)
  have n4_ := am_ (below_step qz10_ hb)
  clear HO104
  clear HO108
  clear BK101
  clear HB
  have HO104 := n0_
  have HO108 := n1_
  have HO111 := n2_
  have BK101 := n3_
  have HB := n4_
  clear n0_ n1_ n2_ n3_ n4_
  (try clear hb)
  (try clear hb2)
  (try clear hk)
  (try clear hi)
  (try clear ho0)
  refine hK.out _ _ ((blk_cell BK101.out 0).trans rfl) (fun hHeld => ?_)
  clear hK K
  refine norm_ (a' := ?_) ?_ ?_
  rotate_left
  ·
   show Act.put _ (some 25) _ = _
   simp only [Act.put, List.setIfInBounds_toArray, List.set_cons_zero, List.set_cons_succ, i64_w, i32_w]
   rfl
  refine pure_ (i := 5) (N := some 6) (v := ?_) (a' := ?_) #[true, true, true, true, true, true, false, false] rfl rfl (any_of HT_.out (by kernel_rfl)) (fun _ _ _ h => h) (Or.inl ⟨(by rfl), ?_⟩) ?_ ?_
  rotate_left
  ·
   intro w'
   go_simp
   with_reducible rfl
  rotate_left
  ·
   simp only [Act.put, List.setIfInBounds_toArray, List.set_cons_zero, List.set_cons_succ, i64_w, i32_w]
   rfl
  refine pure_ (i := 6) (N := some 7) (v := ?_) (a' := ?_) #[true, true, true, true, true, true, true, false] rfl rfl (any_of HT_.out (by kernel_rfl)) (fun _ _ _ h => h) (Or.inl ⟨(by rfl), ?_⟩) ?_ ?_
  rotate_left
  ·
   intro w'
   go_simp
   with_reducible rfl
  rotate_left
  ·
   simp only [Act.put, List.setIfInBounds_toArray, List.set_cons_zero, List.set_cons_succ, i64_w, i32_w]
   rfl
  refine pure_ (i := 7) (N := some 8) (v := ?_) (a' := ?_) #[true, true, true, true, true, true, true, true] rfl rfl (any_of HT_.out (by kernel_rfl)) (fun _ _ _ h => h) (Or.inl ⟨(by rfl), ?_⟩) ?_ ?_
  rotate_left
  ·
   intro w'
   go_simp
   with_reducible rfl
  rotate_left
  ·
   simp only [Act.put, List.setIfInBounds_toArray, List.set_cons_zero, List.set_cons_succ, i64_w, i32_w]
   rfl
  refine done_ (done_of HT_.out (by kernel_rfl)) ?_
  try go_wp2
  go_ret3
  exact ⟨_, _, qz5_, (by (with_reducible repeat (first | apply Kd.R_alloc | apply Kd.R_drewN | apply Kd.R_drew)); exact Kd.R_mono HO108.out (fun _ hk => hk.2)), (by (with_reducible repeat (first | apply Kd.R_alloc | apply Kd.R_drewN | apply Kd.R_drew)); exact Kd.R_mono HO111.out (fun _ hk => hk.2)), qz10_⟩
 ·
  rw [if_neg c5] at H
  have c5b0 : (t105 == 0) = false := beq_eq_false_iff_ne.mpr c5
  have c5b1 : (t105 != 0) = true := bne_iff_ne.mpr c5
  simp only [Option.some.injEq, Prod.mk.injEq] at H
  obtain ⟨rfl, rfl, rfl⟩ := H
  go_enter Try.func40, Try.ntmps40
  go_wp2_with (first | ((with_reducible refine gate_dst (N := 3) rfl ?_); refine box_event ?hg (N := 3) ?hd (cs := #[.slice A0_0 l0_0.length c0_0]) (t := 63) ?hr ?_; (case hd => rfl); (case hg => rfl); (case hr => first | (go_simp; done) | (go_simp; rfl)); intro gb101 hg w15 hbox hb; have n0_ := am_ (below_step qz1_ hb); have n1_ := am_ (hbox); have n2_ := am_ ((by rw [hg]; exact (below_size qz1_) : w.heap.size ≤ gb101)); have n3_ := am_ ((by rw [hg]; exact (below_size qz1_) : w.heap.size ≤ gb101)); clear HB; have HB := n0_; have BK101 := n1_; have GW101 := n2_; have GE101 := n3_; clear n0_ n1_ n2_ n3_; clear hb hbox hg; have hcz16_0 : w15.cell? ⟨gb101, 0, none⟩ = some (.slice A0_0 l0_0.length c0_0) := (blk_cell BK101.out 0).trans rfl; have hfz16_0 := blk_frozen BK101.out 0) | ((with_reducible refine gate_callee (f := 36) rfl ?_); refine goesL_ (some 15) rfl rfl Try.func36 (by kernel_rfl) rfl #[.agg #[.slice A0_0 l0_0.length c0_0], .slice A1 l1.length c1, .slice A2 l2.length c2] rfl qz9_ ?_; (with_reducible refine (impl_RunCircuit.calls k _ _ l0_0 _ _ l1 _ _ l2 t102 t105 _ ?side1 ?side2 ?side3 ?side4 ?side5 ?side6 A4.out).mono ?_); (case side1 => exact qc_ (Kd.C_below HR0_0.out HB.out)); (case side2 => exact HC0_0.out); (case side3 => exact qc_ (Kd.C_below HR1.out HB.out)); (case side4 => exact HC1.out); (case side5 => exact qc_ (Kd.C_below HR2.out HB.out)); (case side6 => exact HC2.out); rintro e w17 ⟨v103, rfl, ho0, hb⟩; refine ⟨_, rfl, ?_⟩; have n0_ := am_ (Kd.R_lower ho0 (below_size qz10_)); have n1_ := am_ (blk_below (g := gb101) (o := .cells #[.slice A0_0 l0_0.length c0_0] 63 (0, 0)) qz11_ hb); have n2_ := am_ (below_step qz10_ hb); clear BK101; clear HB; have HO104 := n0_; have BK101 := n1_; have HB := n2_; clear n0_ n1_ n2_; (try clear hb); (try clear hb2); (try clear hk); (try clear hi); (try clear ho0)))
  go_ret3
  exact ⟨_, _, qz5_, qz70_, qz70_, qz10_⟩

end Go.Proofs.Ytekijbcblajjbaa.PT
end
