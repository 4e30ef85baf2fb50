/- Part 1 of the proof of FnScript: what functions compute, shown step by step, and what that says (the claim's last text states the law). -/
import Derived.Test.YtgookagndlfehaaProg
import Derived.Test.YtgookagndlfehaaVMore
import Derived.Test.YtgookagndlfehaaVWords
import Derived.Test.YtgookagndlfehaaVLast
import Derived.Test.YtgookagndlfehaaVTab
import Derived.Test.YtgookagndlfehaaVFour
import Derived.Test.YtgookagndlfehaaVQPut
import Derived.Test.YtgookagndlfehaaVApart
import Derived.Test.YtgookagndlfehaaVArr
import Derived.Test.YtgookagndlfehaaVZeros
import Derived.Test.YtgookagndlfehaaVFoot
import Derived.Test.YtgookagndlfehaaVKept
import Derived.Test.YtgookagndlfehaaVShare
import Derived.Test.YtgookagndlfehaaVN
import Derived.Test.YtgookagndlfehaaVFootNe
import Derived.Test.YtgookagndlfehaaVAt
import Derived.Test.YtgookagndlfehaaVRepsOne
import Derived.Test.YtgookagndlfehaaVGuard
import Derived.Test.YtgookagndlfehaaVNEv
import Derived.Test.YtgookagndlfehaaRows
import Derived.JoinedOf
import Derived.WalkKit
import Derived.ProofKit
import Derived.Below
import Derived.Deep.Draws
import Derived.Deep.AppendLies
import Derived.Maps.AppendAt
import Derived.OwnWalk
import Derived.Laws.BytesArg
import Derived.Laws.MakeOwn
import Derived.Laws.OwnMore
import Derived.Deep.OwnRows
import Derived.Tactics
import Derived.Lib.ConvBytes
import Derived.Laws.Slices
import Derived.KernelRfl
import Derived.RowKit3
import Derived.Deep.LoopGhost
import Derived.Deep.QuietTactic
import Derived.BigQuiet
import Derived.WideLaws
import Derived.Deep.DeepCutAuto
import Derived.Deep.CutBlock
import Derived.Deep.RegionHeld3
import Derived.Laws.Rows
import Derived.Lib.AppendStr
import Derived.ArgAppend
import Derived.Laws.IdiomCopy
import Derived.OrdersHeld
import Derived.Laws.BitsLemmas
import Derived.RowKit
import Derived.StillTailTactics
import Derived.Lib.BufferMore
import Derived.Lib.SliceRun
import Derived.Deep.DeepMust
import Derived.Laws.CopyOwn
import Derived.OpenShut
import Derived.ShutString
import Derived.ChangeOld
import Derived.SizedLaws
import Derived.Deep.Slices
import Derived.ChangeArms
import Derived.Test.YtgookagndlfehaaZFnScript0
section
namespace Go.Proofs.Ytgookagndlfehaa.PT
open Go.RowKit Go.Proofs.YtgookagndlfehaaW.PrintWords Go.Proofs.YtgookagndlfehaaW.PrintLast Go.Proofs.YtgookagndlfehaaW.PrintMore
attribute [local go_sem] max2_int min2_int max_two min_two max_three min_three max_four min_four   -- for this text's walks alone
set_option linter.unusedVariables false
set_option linter.unusedSimpArgs false
mutual
def impl_NewScript.j0 : Nat → ByteArray → List (S34) → Bool → Option ((List (S34)) × Int × ByteArray × Int × Int)
 | 0, _, _, _ => none
 | k + 1, x0, x1, x6 => if x6 = true then (some (([] : List (S34)), 0, (⟨#[]⟩ : ByteArray), 0, 2)) else ((impl_are_Ext_ExtOK.f x1).bind fun t103 => (if t103 = true then (if (x0.size : Int) > 100 then (impl_NewScript.j1 k x0 x1 true) else ((impl_in.f (x1.length : Int) 1 64).bind fun t104 => (impl_NewScript.j1 k x0 x1 (!t104)))) else (some (([] : List (S34)), 0, (⟨#[]⟩ : ByteArray), 0, 1))))
def impl_NewScript.j1 : Nat → ByteArray → List (S34) → Bool → Option ((List (S34)) × Int × ByteArray × Int × Int)
 | 0, _, _, _ => none
 | k + 1, x0, x1, x20 => if x20 = true then (some (([] : List (S34)), 0, (⟨#[]⟩ : ByteArray), 0, 4)) else ((impl_Ext_45.f x1).bind fun t105 => ((impl_newState.f x0).bind fun t108 => (some (t105, 0, t108, 0, 0))))
end
def impl_NewScript.f (k : Nat) (a0 : ByteArray) (l1 : List (S34)) : Option ((List (S34)) × Int × ByteArray × Int × Int) := (impl_isLong.f a0).bind fun t102 => (if t102 = true then (impl_NewScript.j0 k a0 l1 true) else (impl_NewScript.j0 k a0 l1 (decide ((l1.length : Int) > 4096))))
theorem impl_NewScript.mono_l : ∀ k, (∀ y0 y1 y2, LeO (impl_NewScript.j0 k y0 y1 y2) (impl_NewScript.j0 (k + 1) y0 y1 y2)) ∧ (∀ y0 y1 y2, LeO (impl_NewScript.j1 k y0 y1 y2) (impl_NewScript.j1 (k + 1) y0 y1 y2))
 | 0 => ⟨fun _ _ _ r h => by simp [impl_NewScript.j0] at h, fun _ _ _ r h => by simp [impl_NewScript.j1] at h⟩
 | k + 1 => by
  obtain ⟨ih0, ih1⟩ := impl_NewScript.mono_l k
  refine ⟨?_, ?_⟩
  ·
   intro y0 y1 y2
   unfold impl_NewScript.j0
   repeat' first
   | (with_reducible exact ih0 _ _ _)
   | (with_reducible exact ih1 _ _ _)
   | (with_reducible exact LeO.refl _)
   | (with_reducible exact LeO.none _)
   | (with_reducible refine LeO.ite ?_ ?_)
   | (with_reducible refine LeO.bind ?_ (fun _ => ?_))
   | exact ih0 _ _ _
   | exact ih1 _ _ _
   | exact LeO.none _
   | refine LeO.ite ?_ ?_
   | refine LeO.bind ?_ (fun _ => ?_)
  ·
   intro y0 y1 y2
   unfold impl_NewScript.j1
   repeat' first
   | (with_reducible exact ih0 _ _ _)
   | (with_reducible exact ih1 _ _ _)
   | (with_reducible exact LeO.refl _)
   | (with_reducible exact LeO.none _)
   | (with_reducible refine LeO.ite ?_ ?_)
   | (with_reducible refine LeO.bind ?_ (fun _ => ?_))
   | exact ih0 _ _ _
   | exact ih1 _ _ _
   | exact LeO.none _
   | refine LeO.ite ?_ ?_
   | refine LeO.bind ?_ (fun _ => ?_)
theorem impl_NewScript.mono : ∀ a0 a1 k, LeO (impl_NewScript.f k a0 a1) (impl_NewScript.f (k + 1) a0 a1) := by
 intro a0 a1 k
 obtain ⟨ih0, ih1⟩ := impl_NewScript.mono_l k
 unfold impl_NewScript.f
 repeat' first
   | (with_reducible exact ih0 _ _ _)
   | (with_reducible exact ih1 _ _ _)
   | (with_reducible exact LeO.refl _)
   | (with_reducible exact LeO.none _)
   | (with_reducible refine LeO.ite ?_ ?_)
   | (with_reducible refine LeO.bind ?_ (fun _ => ?_))
   | exact ih0 _ _ _
   | exact ih1 _ _ _
   | exact LeO.none _
   | refine LeO.ite ?_ ?_
   | refine LeO.bind ?_ (fun _ => ?_)
set_option maxHeartbeats 8000000 in
set_option maxRecDepth 100000 in
theorem impl_NewScript.calls (k : Nat) (a0 : ByteArray) (A1 : Option Addr) (c1 : Nat) (l1 : List (S34)) (r1 : List (S34)) (r2 : Int) (r3 : ByteArray) (r4 : Int) (r5 : Int) (w : World) (hr1 : Kd.C k34 w A1 l1.length l1) (hc1 : l1.length ≤ c1) (h : impl_NewScript.f k a0 l1 = some (r1, r2, r3, r4, r5)) :
  Calls Try.prog 9 #[.string a0, .slice A1 l1.length c1] w fun e w' => ∃ v0_ : Value, e = .returned (.tuple #[.agg #[v0_, .int .i64 r2, .string r3, .int .i64 r4], .int .i64 r5]) ∧ Kd.R k34 34 w' w.heap.size (fun _ => True) v0_ r1 ∧ Below w.heap.size w w' := by
 have hu27 := Try.underlying27
 have HR1 := am_ hr1
 have HC1 := am_ hc1
 clear hr1 hc1
 have HB := am_ (Below.refl w.heap.size w)
 have H : ((impl_isLong.f a0).bind fun t102 => (if t102 = true then (impl_NewScript.j0 k a0 l1 true) else (impl_NewScript.j0 k a0 l1 (decide ((l1.length : Int) > 4096))))) = some (r1, r2, r3, r4, r5) := h
 clear h
 have HC3 := am_ H
 clear H
 go_enter Try.func9, Try.ntmps9
 go_upto_region 1 with (first | ((with_reducible refine gate_dst (N := 4) rfl ?_); (try (refine gate_guard (by rfl) ?_; dsimp only)); refine box_event ?hg (N := 4) ?hd (cs := #[.slice none 0 0, .int .i64 0, .string (⟨#[]⟩ : ByteArray), .int .i64 0]) (t := 27) ?hr ?_; (case hd => rfl); (case hg => rfl); (case hr => first | (go_simp; done) | (go_simp; rfl)); intro gb101 hg w4 hbox hb; have n0_ := am_ (below_step qz2_ hb); have n1_ := am_ (hbox); have n2_ := am_ ((by rw [hg]; exact (below_size qz2_) : w.heap.size ≤ gb101)); have n3_ := am_ ((by rw [hg]; exact (below_size qz2_) : w.heap.size ≤ gb101)); clear HB; have HB := n0_; have BK101 := n1_; have GW101 := n2_; have GE101 := n3_; clear n0_ n1_ n2_ n3_; clear hb hbox hg))
 (try simp only [Act.put, List.setIfInBounds_toArray, List.set_cons_zero, List.set_cons_succ])
 go_cut [6] (fun v6 wc => ∃ (kq : Nat) (x6_2 : Bool), v6 = .bool x6_2 ∧ Aside0 (impl_NewScript.j0 kq a0 l1 x6_2 = some (r1, r2, r3, r4, r5)) ∧ Aside0 (kq ≤ k) ∧ Aside0 (wc.heap[gb101]? = some (.cells #[(.slice none 0 0), .int .i64 0, .string (⟨#[]⟩ : ByteArray), .int .i64 0] 27 (0, 0))) ∧ Aside0 (Below w.heap.size w wc))
 case first =>
  have H := HC3.out
  clear HC3
  replace H := Option.bind_eq_some_iff.mp H
  obtain ⟨t102, A50, H⟩ := H
  replace H : (if t102 = true then (impl_NewScript.j0 k a0 l1 true) else (impl_NewScript.j0 k a0 l1 (decide ((l1.length : Int) > 4096)))) = some (r1, r2, r3, r4, r5) := H
  have A5 := am_ A50
  clear A50
  by_cases c6 : t102 = true
  ·
   subst c6
   have H1 : (impl_NewScript.j0 k a0 l1 true) = some (r1, r2, r3, r4, r5) := by rw [if_pos rfl] at H; exact H
   clear H
   have H := H1
   clear H1
   have H' := am_ H
   clear H
   go_wp2_with (first | ((with_reducible refine gate_callee (f := 41) rfl ?_); refine goesL_ (some 8) rfl rfl Try.func41 (by kernel_rfl) rfl #[.string a0] rfl qz8_ ?_; (with_reducible refine (impl_isLong.calls a0 true _ A5.out).mono ?_); rintro e w' ⟨rfl, ⟨nd, rfl⟩⟩; refine ⟨_, rfl, ?_⟩))
   go_meet
   case rel => exact ⟨_, (true), qz0_, H', ⟨(by first | omega | exact Nat.le_refl _)⟩, ⟨qz3_⟩, ⟨qz15_⟩⟩
  ·
   replace c6 := Bool.eq_false_iff.mpr c6
   subst c6
   have H1 : (impl_NewScript.j0 k a0 l1 (decide ((l1.length : Int) > 4096))) = some (r1, r2, r3, r4, r5) := by rw [if_neg (show ¬ (false = true) by decide)] at H; exact H
   clear H
   have H := H1
   clear H1
   have H' := am_ H
   clear H
   go_wp2_with (first | ((with_reducible refine gate_callee (f := 41) rfl ?_); refine goesL_ (some 8) rfl rfl Try.func41 (by kernel_rfl) rfl #[.string a0] rfl qz8_ ?_; (with_reducible refine (impl_isLong.calls a0 false _ A5.out).mono ?_); rintro e w' ⟨rfl, ⟨nd, rfl⟩⟩; refine ⟨_, rfl, ?_⟩))
   go_meet
   case rel => exact ⟨_, (decide ((l1.length : Int) > 4096)), qz0_, H', ⟨(by first | omega | exact Nat.le_refl _)⟩, ⟨qz3_⟩, ⟨qz15_⟩⟩
 case rest =>
  clear HC3
  try clear c1
  try clear p2
  try clear c4
  try clear c6
  obtain ⟨kq, x6_2, rfl, HA, HJ2, BK101, HB⟩ := hcut
  cases kq with
  | zero => exact absurd HA.out (by simp [impl_NewScript.j0])
  | succ kj2 =>
   have H := HA.out
   clear HA
   simp only [impl_NewScript.j0] at H
   by_cases c7 : x6_2 = true
   ·
    subst c7
    have H1 : (some (([] : List (S34)), 0, (⟨#[]⟩ : ByteArray), 0, 2)) = some (r1, r2, r3, r4, r5) := by rw [if_pos rfl] at H; exact H
    clear H
    have H := H1
    clear H1
    simp only [Option.some.injEq, Prod.mk.injEq] at H
    obtain ⟨rfl, rfl, rfl, rfl, rfl⟩ := H
    have hcz8_0 : wc.cell? ⟨gb101, 0, none⟩ = some (.slice none 0 0) := (blk_cell BK101.out 0).trans rfl
    have hcz8_1 : wc.cell? ⟨gb101, 1, none⟩ = some (.int .i64 0) := (blk_cell BK101.out 1).trans rfl
    have hcz8_2 : wc.cell? ⟨gb101, 2, none⟩ = some (.string (⟨#[]⟩ : ByteArray)) := (blk_cell BK101.out 2).trans rfl
    have hcz8_3 : wc.cell? ⟨gb101, 3, none⟩ = some (.int .i64 0) := (blk_cell BK101.out 3).trans rfl
    have hfz8_0 := blk_frozen BK101.out 0
    have hfz8_1 := blk_frozen BK101.out 1
    have hfz8_2 := blk_frozen BK101.out 2
    have hfz8_3 := blk_frozen BK101.out 3
    go_wp2
    refine bodyPost_ret (results_ct rfl _ _ gb101 27 #[.slice none 0 0, .int .i64 0, .string (⟨#[]⟩ : ByteArray), .int .i64 0] (0, 0) _ rfl qz16_ Try.underlying27 rfl (by kernel_rfl)) rfl ?_
    exact ⟨_, qz4_, qz17_, qz15_⟩
   ·
    replace c7 := Bool.eq_false_iff.mpr c7
    subst c7
    have H1 : ((impl_are_Ext_ExtOK.f l1).bind fun t103 => (if t103 = true then (if (a0.size : Int) > 100 then (impl_NewScript.j1 kj2 a0 l1 true) else ((impl_in.f (l1.length : Int) 1 64).bind fun t104 => (impl_NewScript.j1 kj2 a0 l1 (!t104)))) else (some (([] : List (S34)), 0, (⟨#[]⟩ : ByteArray), 0, 1)))) = some (r1, r2, r3, r4, r5) := by rw [if_neg (show ¬ (false = true) by decide)] at H; exact H
    clear H
    have H := H1
    clear H1
    replace H := Option.bind_eq_some_iff.mp H
    obtain ⟨t103, A90, H⟩ := H
    replace H : (if t103 = true then (if (a0.size : Int) > 100 then (impl_NewScript.j1 kj2 a0 l1 true) else ((impl_in.f (l1.length : Int) 1 64).bind fun t104 => (impl_NewScript.j1 kj2 a0 l1 (!t104)))) else (some (([] : List (S34)), 0, (⟨#[]⟩ : ByteArray), 0, 1))) = some (r1, r2, r3, r4, r5) := H
    have A9 := am_ A90
    clear A90
    by_cases c10 : t103 = true
    ·
     subst c10
     have H1 : (if (a0.size : Int) > 100 then (impl_NewScript.j1 kj2 a0 l1 true) else ((impl_in.f (l1.length : Int) 1 64).bind fun t104 => (impl_NewScript.j1 kj2 a0 l1 (!t104)))) = some (r1, r2, r3, r4, r5) := by rw [if_pos rfl] at H; exact H
     clear H
     have H := H1
     clear H1
     have HC11 := am_ H
     clear H
     go_upto_region 5 with (first | ((with_reducible refine gate_callee (f := 42) rfl ?_); refine goesL_ (some 17) rfl rfl Try.func42 (by kernel_rfl) rfl #[(Value.func (.func 43) #[] #[]), .slice A1 l1.length c1] rfl qz8_ ?_; (with_reducible refine (impl_are_Ext_ExtOK.calls  _ _ l1 true _ ?side1 ?side2 A9.out).mono ?_); (case side1 => exact qc_ (Kd.C_below HR1.out HB.out)); (case side2 => exact HC1.out); rintro e w12 ⟨rfl, hb⟩; refine ⟨_, rfl, ?_⟩; have n0_ := am_ (blk_below (g := gb101) (o := .cells #[.slice none 0 0, .int .i64 0, .string (⟨#[]⟩ : ByteArray), .int .i64 0] 27 (0, 0)) qz3_ hb); have n1_ := am_ (below_step qz15_ hb); clear BK101; clear HB; have BK101 := n0_; have HB := n1_; clear n0_ n1_; (try clear hb); (try clear hb2); (try clear hk); (try clear hi)))
     (try simp only [Act.put, List.setIfInBounds_toArray, List.set_cons_zero, List.set_cons_succ])
     go_cut [20] (fun v20 wc => ∃ (kq : Nat) (x20_10 : Bool), v20 = .bool x20_10 ∧ Aside0 (impl_NewScript.j1 kq a0 l1 x20_10 = some (r1, r2, r3, r4, r5)) ∧ Aside0 (kq ≤ kj2) ∧ Aside0 (wc.heap[gb101]? = some (.cells #[(.slice none 0 0), .int .i64 0, .string (⟨#[]⟩ : ByteArray), .int .i64 0] 27 (0, 0))) ∧ Aside0 (Below w.heap.size w wc))
     case first =>
      have H := HC11.out
      clear HC11
      by_cases c13 : (a0.size : Int) > 100
      ·
       rw [if_pos c13] at H
       have c13b0 : decide (100 < (a0.size : Int)) = true := decide_eq_true c13
       have c13b1 : decide (100 < a0.size) = true := decide_eq_true (by omega)
       clear c13
       (first | rw [c13b0] | (simp only [i64_w, i32_w]; rw [c13b0]) | skip)
       have H' := am_ H
       clear H
       go_wp2
       go_meet
       case rel => exact ⟨_, (true), qz0_, H', ⟨(by have := HJ2.out; first | omega | exact Nat.le_refl _)⟩, ⟨qz3_⟩, ⟨qz15_⟩⟩
      ·
       rw [if_neg c13] at H
       have c13b0 : decide (100 < (a0.size : Int)) = false := decide_eq_false c13
       have c13b1 : decide (100 < a0.size) = false := decide_eq_false (by omega)
       clear c13
       (first | rw [c13b0] | (simp only [i64_w, i32_w]; rw [c13b0]) | skip)
       replace H := Option.bind_eq_some_iff.mp H
       obtain ⟨t104, A140, H⟩ := H
       replace H : (impl_NewScript.j1 kj2 a0 l1 (!t104)) = some (r1, r2, r3, r4, r5) := H
       have A14 := am_ A140
       clear A140
       have H' := am_ H
       clear H
       go_wp2_with (first | (go_at_call 44; (with_reducible refine (impl_in.calls (l1.length : Int) 1 64 t104 _ A14.out).mono ?_); rintro e w' ⟨rfl, ⟨nd, rfl⟩⟩))
       go_meet
       case rel => exact ⟨_, (!t104), qz0_, H', ⟨(by have := HJ2.out; first | omega | exact Nat.le_refl _)⟩, ⟨qz3_⟩, ⟨qz15_⟩⟩
     case rest =>
      clear HC11
      try clear c1
      try clear p2
      try clear c4
      try clear c6
      try clear c7
      try clear c9
      try clear c10
      try clear c13
      try clear c13b0
      try clear c13b1
      try clear hcz8_0
      try clear hcz8_1
      try clear hcz8_2
      try clear hcz8_3
      try clear hfz8_0
      try clear hfz8_1
      try clear hfz8_2
      try clear hfz8_3
      try clear p2
      obtain ⟨kq, x20_10, rfl, HA, HJ10, BK101, HB⟩ := hcut
      cases kq with
      | zero => exact absurd HA.out (by simp [impl_NewScript.j1])
      | succ kj10 =>
       have H := HA.out
       clear HA
       simp only [impl_NewScript.j1] at H
       by_cases c15 : x20_10 = true
       ·
        subst c15
        have H1 : (some (([] : List (S34)), 0, (⟨#[]⟩ : ByteArray), 0, 4)) = some (r1, r2, r3, r4, r5) := by rw [if_pos rfl] at H; exact H
        clear H
        have H := H1
        clear H1
        simp only [Option.some.injEq, Prod.mk.injEq] at H
        obtain ⟨rfl, rfl, rfl, rfl, rfl⟩ := H
        have hcz16_0 : wc.cell? ⟨gb101, 0, none⟩ = some (.slice none 0 0) := (blk_cell BK101.out 0).trans rfl
        have hcz16_1 : wc.cell? ⟨gb101, 1, none⟩ = some (.int .i64 0) := (blk_cell BK101.out 1).trans rfl
        have hcz16_2 : wc.cell? ⟨gb101, 2, none⟩ = some (.string (⟨#[]⟩ : ByteArray)) := (blk_cell BK101.out 2).trans rfl
        have hcz16_3 : wc.cell? ⟨gb101, 3, none⟩ = some (.int .i64 0) := (blk_cell BK101.out 3).trans rfl
        have hfz16_0 := blk_frozen BK101.out 0
        have hfz16_1 := blk_frozen BK101.out 1
        have hfz16_2 := blk_frozen BK101.out 2
        have hfz16_3 := blk_frozen BK101.out 3
        go_wp2
        refine bodyPost_ret (results_ct rfl _ _ gb101 27 #[.slice none 0 0, .int .i64 0, .string (⟨#[]⟩ : ByteArray), .int .i64 0] (0, 0) _ rfl qz16_ Try.underlying27 rfl (by kernel_rfl)) rfl ?_
        exact ⟨_, qz4_, qz17_, qz15_⟩
       ·
        replace c15 := Bool.eq_false_iff.mpr c15
        subst c15
        have H1 : ((impl_Ext_45.f l1).bind fun t105 => ((impl_newState.f a0).bind fun t108 => (some (t105, 0, t108, 0, 0)))) = some (r1, r2, r3, r4, r5) := by rw [if_neg (show ¬ (false = true) by decide)] at H; exact H
        clear H
        have H := H1
        clear H1
        replace H := Option.bind_eq_some_iff.mp H
        obtain ⟨t105, A170, H⟩ := H
        replace H : ((impl_newState.f a0).bind fun t108 => (some (t105, 0, t108, 0, 0))) = some (r1, r2, r3, r4, r5) := H
        have A17 := am_ A170
        clear A170
        replace H := Option.bind_eq_some_iff.mp H
        obtain ⟨t108, A180, H⟩ := H
        replace H : (some (t105, 0, t108, 0, 0)) = some (r1, r2, r3, r4, r5) := H
        have A18 := am_ A180
        clear A180
        simp only [Option.some.injEq, Prod.mk.injEq] at H
        obtain ⟨rfl, rfl, rfl, rfl, rfl⟩ := H
        go_wp2_with (first | ((with_reducible refine gate_callee (f := 45) rfl ?_); refine goesL_ (some 32) rfl rfl Try.func45 (by kernel_rfl) rfl #[.slice A1 l1.length c1] rfl qz8_ ?_; (with_reducible refine (impl_Ext_45.calls _ _ l1 t105 _ ?side1 ?side2 A17.out).mono ?_); (case side1 => exact qc_ (Kd.C_below HR1.out HB.out)); (case side2 => exact HC1.out); rintro e w19 ⟨v106, rfl, ho0, hb⟩; refine ⟨_, rfl, ?_⟩; have n0_ := am_ (Kd.R_lower ho0 (below_size qz15_)); have n1_ := am_ (blk_below (g := gb101) (o := .cells #[.slice none 0 0, .int .i64 0, .string (⟨#[]⟩ : ByteArray), .int .i64 0] 27 (0, 0)) qz3_ hb); have n2_ := am_ (below_step qz15_ hb); clear BK101; clear HB; have HO107 := n0_; have BK101 := n1_; have HB := n2_; clear n0_ n1_ n2_; (try clear hb); (try clear hb2); (try clear hk); (try clear hi); (try clear ho0)) | ((with_reducible refine gate_callee (f := 46) rfl ?_); refine goesL_ (some 34) rfl rfl Try.func46 (by kernel_rfl) rfl #[.string a0] rfl qz8_ ?_; (with_reducible refine (impl_newState.calls a0 t108 _ A18.out).mono ?_); rintro e w20 ⟨rfl, hb⟩; refine ⟨_, rfl, ?_⟩; have n0_ := am_ (Kd.R_below (by (with_reducible repeat (first | apply Kd.R_alloc | apply Kd.R_drewN | apply Kd.R_drew)); exact HO107.out) hb); have n1_ := am_ (blk_below (g := gb101) (o := .cells #[.slice none 0 0, .int .i64 0, .string (⟨#[]⟩ : ByteArray), .int .i64 0] 27 (0, 0)) qz3_ hb); have n2_ := am_ (below_step qz15_ hb); clear HO107; clear BK101; clear HB; have HO107 := n0_; have BK101 := n1_; have HB := n2_; clear n0_ n1_ n2_; (try clear hb); (try clear hb2); (try clear hk); (try clear hi); obtain ⟨Ao21, co21, eo21⟩ := Kd.R_slice HO107.out; subst eo21; have hcz22_0 : w20.cell? ⟨gb101, 0, none⟩ = some (.slice none 0 0) := (blk_cell BK101.out 0).trans rfl; have hcz22_1 : w20.cell? ⟨gb101, 1, none⟩ = some (.int .i64 0) := (blk_cell BK101.out 1).trans rfl; have hcz22_2 : w20.cell? ⟨gb101, 2, none⟩ = some (.string (⟨#[]⟩ : ByteArray)) := (blk_cell BK101.out 2).trans rfl; have hcz22_3 : w20.cell? ⟨gb101, 3, none⟩ = some (.int .i64 0) := (blk_cell BK101.out 3).trans rfl; have hfz22_0 := blk_frozen BK101.out 0; have hfz22_1 := blk_frozen BK101.out 1; have hfz22_2 := blk_frozen BK101.out 2; have hfz22_3 := blk_frozen BK101.out 3))
        refine bodyPost_ret (results_ct rfl _ _ gb101 27 #[.slice Ao21 t105.length co21, .int .i64 0, .string t108, .int .i64 0] (0, 0) _ rfl (by (with_reducible repeat (first | refine blk_drewN ?_ _ | refine blk_drew ?_ | refine blk_alloc ?_ _)); refine blk_put (cs := #[.slice Ao21 t105.length co21, .int .i64 0, .string t108, .int .i64 0]) ?_ 3 _ rfl; (with_reducible repeat (first | refine blk_drewN ?_ _ | refine blk_drew ?_ | refine blk_alloc ?_ _)); refine blk_put (cs := #[.slice Ao21 t105.length co21, .int .i64 0, .string (⟨#[]⟩ : ByteArray), .int .i64 0]) ?_ 2 _ rfl; (with_reducible repeat (first | refine blk_drewN ?_ _ | refine blk_drew ?_ | refine blk_alloc ?_ _)); refine blk_put (cs := #[.slice Ao21 t105.length co21, .int .i64 0, .string (⟨#[]⟩ : ByteArray), .int .i64 0]) ?_ 1 _ rfl; (with_reducible repeat (first | refine blk_drewN ?_ _ | refine blk_drew ?_ | refine blk_alloc ?_ _)); refine blk_put (cs := #[.slice none 0 0, .int .i64 0, .string (⟨#[]⟩ : ByteArray), .int .i64 0]) ?_ 0 _ rfl; (with_reducible repeat (first | refine blk_drewN ?_ _ | refine blk_drew ?_ | refine blk_alloc ?_ _)); exact BK101.out) Try.underlying27 rfl (by kernel_rfl)) rfl ?_
        exact ⟨_, by first | rfl | (simp [errW_none, errW_some] <;> rfl) | (simp [*, errW_none, errW_some] <;> rfl), by (with_reducible repeat (first | apply Kd.R_alloc | apply Kd.R_drewN | apply Kd.R_drew)); exact Kd.R_mono (Kd.R_far (p := ⟨gb101, 3, none⟩) (Kd.R_far (p := ⟨gb101, 2, none⟩) (Kd.R_far (p := ⟨gb101, 1, none⟩) (Kd.R_far (p := ⟨gb101, 0, none⟩) (Kd.R_types HO107.out BK101.out (by decide)) (fun _ hk => hk.2) (.slice Ao21 t105.length co21)) (fun _ hk => hk.2) (.int .i64 0)) (fun _ hk => hk.2) (.string t108)) (fun _ hk => hk.2) (.int .i64 0)) (fun _ hk => trivial), by repeat (first | (with_reducible first | exact HB.out | apply below_alloc | apply pw_below_drewN | apply below_drew1 | refine below_set ?_ GE101.out) | exact HB.out)⟩
    ·
     replace c10 := Bool.eq_false_iff.mpr c10
     subst c10
     have H1 : (some (([] : List (S34)), 0, (⟨#[]⟩ : ByteArray), 0, 1)) = some (r1, r2, r3, r4, r5) := by rw [if_neg (show ¬ (false = true) by decide)] at H; exact H
     clear H
     have H := H1
     clear H1
     simp only [Option.some.injEq, Prod.mk.injEq] at H
     obtain ⟨rfl, rfl, rfl, rfl, rfl⟩ := H
     go_wp2_with (first | ((with_reducible refine gate_callee (f := 42) rfl ?_); refine goesL_ (some 17) rfl rfl Try.func42 (by kernel_rfl) rfl #[(Value.func (.func 43) #[] #[]), .slice A1 l1.length c1] rfl qz8_ ?_; (with_reducible refine (impl_are_Ext_ExtOK.calls  _ _ l1 false _ ?side1 ?side2 A9.out).mono ?_); (case side1 => exact qc_ (Kd.C_below HR1.out HB.out)); (case side2 => exact HC1.out); rintro e w23 ⟨rfl, hb⟩; refine ⟨_, rfl, ?_⟩; have n0_ := am_ (blk_below (g := gb101) (o := .cells #[.slice none 0 0, .int .i64 0, .string (⟨#[]⟩ : ByteArray), .int .i64 0] 27 (0, 0)) qz3_ hb); have n1_ := am_ (below_step qz15_ hb); clear BK101; clear HB; have BK101 := n0_; have HB := n1_; clear n0_ n1_; (try clear hb); (try clear hb2); (try clear hk); (try clear hi); have hcz24_0 : w23.cell? ⟨gb101, 0, none⟩ = some (.slice none 0 0) := (blk_cell BK101.out 0).trans rfl; have hcz24_1 : w23.cell? ⟨gb101, 1, none⟩ = some (.int .i64 0) := (blk_cell BK101.out 1).trans rfl; have hcz24_2 : w23.cell? ⟨gb101, 2, none⟩ = some (.string (⟨#[]⟩ : ByteArray)) := (blk_cell BK101.out 2).trans rfl; have hcz24_3 : w23.cell? ⟨gb101, 3, none⟩ = some (.int .i64 0) := (blk_cell BK101.out 3).trans rfl; have hfz24_0 := blk_frozen BK101.out 0; have hfz24_1 := blk_frozen BK101.out 1; have hfz24_2 := blk_frozen BK101.out 2; have hfz24_3 := blk_frozen BK101.out 3))
     refine bodyPost_ret (results_ct rfl _ _ gb101 27 #[.slice none 0 0, .int .i64 0, .string (⟨#[]⟩ : ByteArray), .int .i64 0] (0, 0) _ rfl qz16_ Try.underlying27 rfl (by kernel_rfl)) rfl ?_
     exact ⟨_, qz4_, qz17_, qz15_⟩

def impl_NewSponge.f (a0 : ByteArray) : Option ((List (S34)) × Int × ByteArray × Int × Int) := (impl_isLong.f a0).bind fun t102 => (if t102 = true then (some (([] : List (S34)), 0, (⟨#[]⟩ : ByteArray), 0, 2)) else (if (a0.size : Int) > 100 then (some (([] : List (S34)), 0, (⟨#[]⟩ : ByteArray), 0, 4)) else ((impl_newState.f a0).bind fun t103 => (some (([] : List (S34)), 0, t103, 0, 0)))))
set_option maxHeartbeats 8000000 in
set_option maxRecDepth 100000 in
theorem impl_NewSponge.calls (a0 : ByteArray) (r1 : List (S34)) (r2 : Int) (r3 : ByteArray) (r4 : Int) (r5 : Int) (w : World) (h : impl_NewSponge.f a0 = some (r1, r2, r3, r4, r5)) :
  Calls Try.prog 10 #[.string a0] w fun e w' => ∃ v0_ : Value, e = .returned (.tuple #[.agg #[v0_, .int .i64 r2, .string r3, .int .i64 r4], .int .i64 r5]) ∧ Kd.R k34 34 w' w.heap.size (fun _ => True) v0_ r1 ∧ Below w.heap.size w w' := by
 have hu27 := Try.underlying27
 have HB := am_ (Below.refl w.heap.size w)
 have H : ((impl_isLong.f a0).bind fun t102 => (if t102 = true then (some (([] : List (S34)), 0, (⟨#[]⟩ : ByteArray), 0, 2)) else (if (a0.size : Int) > 100 then (some (([] : List (S34)), 0, (⟨#[]⟩ : ByteArray), 0, 4)) else ((impl_newState.f a0).bind fun t103 => (some (([] : List (S34)), 0, t103, 0, 0)))))) = some (r1, r2, r3, r4, r5) := h
 clear h
 replace H := Option.bind_eq_some_iff.mp H
 obtain ⟨t102, A20, H⟩ := H
 replace H : (if t102 = true then (some (([] : List (S34)), 0, (⟨#[]⟩ : ByteArray), 0, 2)) else (if (a0.size : Int) > 100 then (some (([] : List (S34)), 0, (⟨#[]⟩ : ByteArray), 0, 4)) else ((impl_newState.f a0).bind fun t103 => (some (([] : List (S34)), 0, t103, 0, 0))))) = some (r1, r2, r3, r4, r5) := H
 have A2 := am_ A20
 clear A20
 by_cases c3 : t102 = true
 ·
  subst c3
  have H1 : (some (([] : List (S34)), 0, (⟨#[]⟩ : ByteArray), 0, 2)) = some (r1, r2, r3, r4, r5) := by rw [if_pos rfl] at H; exact H
  clear H
  have H := H1
  clear H1
  simp only [Option.some.injEq, Prod.mk.injEq] at H
  obtain ⟨rfl, rfl, rfl, rfl, rfl⟩ := H
  go_enter Try.func10, Try.ntmps10
  go_wp2_with (first | ((with_reducible refine gate_dst (N := 2) rfl ?_); refine box_event ?hg (N := 2) ?hd (cs := #[.slice none 0 0, .int .i64 0, .string (⟨#[]⟩ : ByteArray), .int .i64 0]) (t := 27) ?hr ?_; (case hd => rfl); (case hg => rfl); (case hr => first | (go_simp; done) | (go_simp; rfl)); intro gb101 hg w4 hbox hb; have n0_ := am_ (below_step qz2_ hb); have n1_ := am_ (hbox); have n2_ := am_ ((by rw [hg]; exact (below_size qz2_) : w.heap.size ≤ gb101)); have n3_ := am_ ((by rw [hg]; exact (below_size qz2_) : w.heap.size ≤ gb101)); clear HB; have HB := n0_; have BK101 := n1_; have GW101 := n2_; have GE101 := n3_; clear n0_ n1_ n2_ n3_; clear hb hbox hg) | ((with_reducible refine gate_callee (f := 41) rfl ?_); refine goesL_ (some 6) rfl rfl Try.func41 (by kernel_rfl) rfl #[.string a0] rfl qz8_ ?_; (with_reducible refine (impl_isLong.calls a0 true _ A2.out).mono ?_); rintro e w' ⟨rfl, ⟨nd, rfl⟩⟩; refine ⟨_, rfl, ?_⟩; (try (rw [drewN_self w4]; generalize hq_ : World.drewN w4 _ = w4; have n0_ : Aside0 (w4.heap[gb101]? = some (.cells #[.slice none 0 0, .int .i64 0, .string (⟨#[]⟩ : ByteArray), .int .i64 0] 27 (0, 0))) := ⟨(by rw [← hq_]; exact qz3_)⟩; have n1_ : Aside0 (Below w.heap.size w w4) := ⟨(by rw [← hq_]; exact qz15_)⟩; clear BK101 HB hq_; have BK101 := n0_; have HB := n1_; clear n0_ n1_)); have hcz5_0 : w4.cell? ⟨gb101, 0, none⟩ = some (.slice none 0 0) := (blk_cell BK101.out 0).trans rfl; have hcz5_1 : w4.cell? ⟨gb101, 1, none⟩ = some (.int .i64 0) := (blk_cell BK101.out 1).trans rfl; have hcz5_2 : w4.cell? ⟨gb101, 2, none⟩ = some (.string (⟨#[]⟩ : ByteArray)) := (blk_cell BK101.out 2).trans rfl; have hcz5_3 : w4.cell? ⟨gb101, 3, none⟩ = some (.int .i64 0) := (blk_cell BK101.out 3).trans rfl; have hfz5_0 := blk_frozen BK101.out 0; have hfz5_1 := blk_frozen BK101.out 1; have hfz5_2 := blk_frozen BK101.out 2; have hfz5_3 := blk_frozen BK101.out 3))
  refine bodyPost_ret (results_ct rfl _ _ gb101 27 #[.slice none 0 0, .int .i64 0, .string (⟨#[]⟩ : ByteArray), .int .i64 0] (0, 0) _ rfl qz16_ Try.underlying27 rfl (by kernel_rfl)) rfl ?_
  exact ⟨_, qz4_, qz17_, qz15_⟩
 ·
  replace c3 := Bool.eq_false_iff.mpr c3
  subst c3
  have H1 : (if (a0.size : Int) > 100 then (some (([] : List (S34)), 0, (⟨#[]⟩ : ByteArray), 0, 4)) else ((impl_newState.f a0).bind fun t103 => (some (([] : List (S34)), 0, t103, 0, 0)))) = some (r1, r2, r3, r4, r5) := by rw [if_neg (show ¬ (false = true) by decide)] at H; exact H
  clear H
  have H := H1
  clear H1
  by_cases c6 : (a0.size : Int) > 100
  ·
   rw [if_pos c6] at H
   have c6b0 : decide (100 < (a0.size : Int)) = true := decide_eq_true c6
   have c6b1 : decide (100 < a0.size) = true := decide_eq_true (by omega)
   clear c6
   simp only [Option.some.injEq, Prod.mk.injEq] at H
   obtain ⟨rfl, rfl, rfl, rfl, rfl⟩ := H
   go_enter Try.func10, Try.ntmps10
   go_wp2_with (first | ((with_reducible refine gate_dst (N := 2) rfl ?_); refine box_event ?hg (N := 2) ?hd (cs := #[.slice none 0 0, .int .i64 0, .string (⟨#[]⟩ : ByteArray), .int .i64 0]) (t := 27) ?hr ?_; (case hd => rfl); (case hg => rfl); (case hr => first | (go_simp; done) | (go_simp; rfl)); intro gb101 hg w7 hbox hb; have n0_ := am_ (below_step qz2_ hb); have n1_ := am_ (hbox); have n2_ := am_ ((by rw [hg]; exact (below_size qz2_) : w.heap.size ≤ gb101)); have n3_ := am_ ((by rw [hg]; exact (below_size qz2_) : w.heap.size ≤ gb101)); clear HB; have HB := n0_; have BK101 := n1_; have GW101 := n2_; have GE101 := n3_; clear n0_ n1_ n2_ n3_; clear hb hbox hg) | ((with_reducible refine gate_callee (f := 41) rfl ?_); refine goesL_ (some 6) rfl rfl Try.func41 (by kernel_rfl) rfl #[.string a0] rfl qz8_ ?_; (with_reducible refine (impl_isLong.calls a0 false _ A2.out).mono ?_); rintro e w' ⟨rfl, ⟨nd, rfl⟩⟩; refine ⟨_, rfl, ?_⟩; (try (rw [drewN_self w7]; generalize hq_ : World.drewN w7 _ = w7; have n0_ : Aside0 (w7.heap[gb101]? = some (.cells #[.slice none 0 0, .int .i64 0, .string (⟨#[]⟩ : ByteArray), .int .i64 0] 27 (0, 0))) := ⟨(by rw [← hq_]; exact qz3_)⟩; have n1_ : Aside0 (Below w.heap.size w w7) := ⟨(by rw [← hq_]; exact qz15_)⟩; clear BK101 HB hq_; have BK101 := n0_; have HB := n1_; clear n0_ n1_)); have hcz8_0 : w7.cell? ⟨gb101, 0, none⟩ = some (.slice none 0 0) := (blk_cell BK101.out 0).trans rfl; have hcz8_1 : w7.cell? ⟨gb101, 1, none⟩ = some (.int .i64 0) := (blk_cell BK101.out 1).trans rfl; have hcz8_2 : w7.cell? ⟨gb101, 2, none⟩ = some (.string (⟨#[]⟩ : ByteArray)) := (blk_cell BK101.out 2).trans rfl; have hcz8_3 : w7.cell? ⟨gb101, 3, none⟩ = some (.int .i64 0) := (blk_cell BK101.out 3).trans rfl; have hfz8_0 := blk_frozen BK101.out 0; have hfz8_1 := blk_frozen BK101.out 1; have hfz8_2 := blk_frozen BK101.out 2; have hfz8_3 := blk_frozen BK101.out 3))
   refine bodyPost_ret (results_ct rfl _ _ gb101 27 #[.slice none 0 0, .int .i64 0, .string (⟨#[]⟩ : ByteArray), .int .i64 0] (0, 0) _ rfl qz16_ Try.underlying27 rfl (by kernel_rfl)) rfl ?_
   exact ⟨_, qz4_, qz17_, qz15_⟩
  ·
   rw [if_neg c6] at H
   have c6b0 : decide (100 < (a0.size : Int)) = false := decide_eq_false c6
   have c6b1 : decide (100 < a0.size) = false := decide_eq_false (by omega)
   clear c6
   replace H := Option.bind_eq_some_iff.mp H
   obtain ⟨t103, A90, H⟩ := H
   replace H : (some (([] : List (S34)), 0, t103, 0, 0)) = some (r1, r2, r3, r4, r5) := H
   have A9 := am_ A90
   clear A90
   simp only [Option.some.injEq, Prod.mk.injEq] at H
   obtain ⟨rfl, rfl, rfl, rfl, rfl⟩ := H
   go_enter Try.func10, Try.ntmps10
   go_wp2_with (first | ((with_reducible refine gate_dst (N := 2) rfl ?_); refine box_event ?hg (N := 2) ?hd (cs := #[.slice none 0 0, .int .i64 0, .string (⟨#[]⟩ : ByteArray), .int .i64 0]) (t := 27) ?hr ?_; (case hd => rfl); (case hg => rfl); (case hr => first | (go_simp; done) | (go_simp; rfl)); intro gb101 hg w10 hbox hb; have n0_ := am_ (below_step qz2_ hb); have n1_ := am_ (hbox); have n2_ := am_ ((by rw [hg]; exact (below_size qz2_) : w.heap.size ≤ gb101)); have n3_ := am_ ((by rw [hg]; exact (below_size qz2_) : w.heap.size ≤ gb101)); clear HB; have HB := n0_; have BK101 := n1_; have GW101 := n2_; have GE101 := n3_; clear n0_ n1_ n2_ n3_; clear hb hbox hg) | ((with_reducible refine gate_callee (f := 41) rfl ?_); refine goesL_ (some 6) rfl rfl Try.func41 (by kernel_rfl) rfl #[.string a0] rfl qz8_ ?_; (with_reducible refine (impl_isLong.calls a0 false _ A2.out).mono ?_); rintro e w' ⟨rfl, ⟨nd, rfl⟩⟩; refine ⟨_, rfl, ?_⟩; (try (rw [drewN_self w10]; generalize hq_ : World.drewN w10 _ = w10; have n0_ : Aside0 (w10.heap[gb101]? = some (.cells #[.slice none 0 0, .int .i64 0, .string (⟨#[]⟩ : ByteArray), .int .i64 0] 27 (0, 0))) := ⟨(by rw [← hq_]; exact qz3_)⟩; have n1_ : Aside0 (Below w.heap.size w w10) := ⟨(by rw [← hq_]; exact qz15_)⟩; clear BK101 HB hq_; have BK101 := n0_; have HB := n1_; clear n0_ n1_))) | ((with_reducible refine gate_callee (f := 46) rfl ?_); refine goesL_ (some 14) rfl rfl Try.func46 (by kernel_rfl) rfl #[.string a0] rfl qz8_ ?_; (with_reducible refine (impl_newState.calls a0 t103 _ A9.out).mono ?_); rintro e w11 ⟨rfl, hb⟩; refine ⟨_, rfl, ?_⟩; have n0_ := am_ (blk_below (g := gb101) (o := .cells #[.slice none 0 0, .int .i64 0, .string (⟨#[]⟩ : ByteArray), .int .i64 0] 27 (0, 0)) qz3_ hb); have n1_ := am_ (below_step qz15_ hb); clear BK101; clear HB; have BK101 := n0_; have HB := n1_; clear n0_ n1_; (try clear hb); (try clear hb2); (try clear hk); (try clear hi); have hcz12_0 : w11.cell? ⟨gb101, 0, none⟩ = some (.slice none 0 0) := (blk_cell BK101.out 0).trans rfl; have hcz12_1 : w11.cell? ⟨gb101, 1, none⟩ = some (.int .i64 0) := (blk_cell BK101.out 1).trans rfl; have hcz12_2 : w11.cell? ⟨gb101, 2, none⟩ = some (.string (⟨#[]⟩ : ByteArray)) := (blk_cell BK101.out 2).trans rfl; have hcz12_3 : w11.cell? ⟨gb101, 3, none⟩ = some (.int .i64 0) := (blk_cell BK101.out 3).trans rfl; have hfz12_0 := blk_frozen BK101.out 0; have hfz12_1 := blk_frozen BK101.out 1; have hfz12_2 := blk_frozen BK101.out 2; have hfz12_3 := blk_frozen BK101.out 3))
   refine bodyPost_ret (results_ct rfl _ _ gb101 27 #[.slice none 0 0, .int .i64 0, .string t103, .int .i64 0] (0, 0) _ rfl (by (with_reducible repeat (first | refine blk_drewN ?_ _ | refine blk_drew ?_ | refine blk_alloc ?_ _)); refine blk_put (cs := #[.slice none 0 0, .int .i64 0, .string t103, .int .i64 0]) ?_ 3 _ rfl; (with_reducible repeat (first | refine blk_drewN ?_ _ | refine blk_drew ?_ | refine blk_alloc ?_ _)); refine blk_put (cs := #[.slice none 0 0, .int .i64 0, .string (⟨#[]⟩ : ByteArray), .int .i64 0]) ?_ 2 _ rfl; (with_reducible repeat (first | refine blk_drewN ?_ _ | refine blk_drew ?_ | refine blk_alloc ?_ _)); refine blk_put (cs := #[.slice none 0 0, .int .i64 0, .string (⟨#[]⟩ : ByteArray), .int .i64 0]) ?_ 1 _ rfl; (with_reducible repeat (first | refine blk_drewN ?_ _ | refine blk_drew ?_ | refine blk_alloc ?_ _)); refine blk_put (cs := #[.slice none 0 0, .int .i64 0, .string (⟨#[]⟩ : ByteArray), .int .i64 0]) ?_ 0 _ rfl; (with_reducible repeat (first | refine blk_drewN ?_ _ | refine blk_drew ?_ | refine blk_alloc ?_ _)); exact BK101.out) Try.underlying27 rfl (by kernel_rfl)) rfl ?_
   exact ⟨_, qz4_, qz17_, qz15_⟩

def impl_isHash.f (a0 : ByteArray) : Option (Bool) := some ((a0.size : Int) == 32)
set_option maxHeartbeats 8000000 in
set_option maxRecDepth 100000 in
theorem impl_isHash.calls (a0 : ByteArray) (r : Bool) (w : World) (h : impl_isHash.f a0 = some r) :
  Calls Try.prog 47 #[.string a0] w fun e w' => e = .returned (.bool r) ∧ Drawn0 w w' := by
 have H : (some ((a0.size : Int) == 32)) = some r := h
 clear h
 obtain rfl := Option.some.inj H
 go_enter Try.func47, Try.ntmps47
 go_wp2
 go_ret
 exact ⟨qz0_, qz1_⟩

def impl_SourceOK.f (l0_0 : List (S34)) (a0_1 : Int) (a0_2 : ByteArray) (a0_3 : Int) : Option (Bool) := if (l0_0.length : Int) ≤ 64 then ((impl_are_Ext_ExtOK.f l0_0).bind fun t102 => (if t102 = true then ((impl_isHash.f a0_2).bind fun t103 => (if t103 = true then ((impl_in.f a0_1 0 1000000).bind fun t104 => (if t104 = true then ((impl_in.f a0_3 0 1000000).bind fun t105 => (some t105)) else (some false))) else (some false))) else (some false))) else (some false)
set_option maxHeartbeats 8000000 in
set_option maxRecDepth 100000 in
theorem impl_SourceOK.calls (A0_0 : Option Addr) (c0_0 : Nat) (l0_0 : List (S34)) (a0_1 : Int) (a0_2 : ByteArray) (a0_3 : Int) (r : Bool) (w : World) (hr0_0 : Kd.C k34 w A0_0 l0_0.length l0_0) (hc0_0 : l0_0.length ≤ c0_0) (h : impl_SourceOK.f l0_0 a0_1 a0_2 a0_3 = some r) :
  Calls Try.prog 11 #[.agg #[.slice A0_0 l0_0.length c0_0, .int .i64 a0_1, .string a0_2, .int .i64 a0_3]] w fun e w' => e = .returned (.bool r) ∧ Below w.heap.size w w' := by
 have hu27 := Try.underlying27
 have HR0_0 := am_ hr0_0
 have HC0_0 := am_ hc0_0
 clear hr0_0 hc0_0
 have HB := am_ (Below.refl w.heap.size w)
 have H : (if (l0_0.length : Int) ≤ 64 then ((impl_are_Ext_ExtOK.f l0_0).bind fun t102 => (if t102 = true then ((impl_isHash.f a0_2).bind fun t103 => (if t103 = true then ((impl_in.f a0_1 0 1000000).bind fun t104 => (if t104 = true then ((impl_in.f a0_3 0 1000000).bind fun t105 => (some t105)) else (some false))) else (some false))) else (some false))) else (some false)) = some r := h
 clear h
 by_cases c2 : (l0_0.length : Int) ≤ 64
 ·
  rw [if_pos c2] at H
  have c2b0 : decide ((l0_0.length : Int) ≤ 64) = true := decide_eq_true c2
  have c2b1 : decide (l0_0.length ≤ 64) = true := decide_eq_true (by omega)
  clear c2
  replace H := Option.bind_eq_some_iff.mp H
  obtain ⟨t102, A30, H⟩ := H
  replace H : (if t102 = true then ((impl_isHash.f a0_2).bind fun t103 => (if t103 = true then ((impl_in.f a0_1 0 1000000).bind fun t104 => (if t104 = true then ((impl_in.f a0_3 0 1000000).bind fun t105 => (some t105)) else (some false))) else (some false))) else (some false)) = some r := H
  have A3 := am_ A30
  clear A30
  by_cases c4 : t102 = true
  ·
   subst c4
   have H1 : ((impl_isHash.f a0_2).bind fun t103 => (if t103 = true then ((impl_in.f a0_1 0 1000000).bind fun t104 => (if t104 = true then ((impl_in.f a0_3 0 1000000).bind fun t105 => (some t105)) else (some false))) else (some false))) = some r := by rw [if_pos rfl] at H; exact H
   clear H
   have H := H1
   clear H1
   replace H := Option.bind_eq_some_iff.mp H
   obtain ⟨t103, A50, H⟩ := H
   replace H : (if t103 = true then ((impl_in.f a0_1 0 1000000).bind fun t104 => (if t104 = true then ((impl_in.f a0_3 0 1000000).bind fun t105 => (some t105)) else (some false))) else (some false)) = some r := H
   have A5 := am_ A50
   clear A50
   by_cases c6 : t103 = true
   ·
    subst c6
    have H1 : ((impl_in.f a0_1 0 1000000).bind fun t104 => (if t104 = true then ((impl_in.f a0_3 0 1000000).bind fun t105 => (some t105)) else (some false))) = some r := by rw [if_pos rfl] at H; exact H
    clear H
    have H := H1
    clear H1
    replace H := Option.bind_eq_some_iff.mp H
    obtain ⟨t104, A70, H⟩ := H
    replace H : (if t104 = true then ((impl_in.f a0_3 0 1000000).bind fun t105 => (some t105)) else (some false)) = some r := H
    have A7 := am_ A70
    clear A70
    by_cases c8 : t104 = true
    ·
     subst c8
     have H1 : ((impl_in.f a0_3 0 1000000).bind fun t105 => (some t105)) = some r := by rw [if_pos rfl] at H; exact H
     clear H
     have H := H1
     clear H1
     replace H := Option.bind_eq_some_iff.mp H
     obtain ⟨t105, A90, H⟩ := H
     replace H : (some t105) = some r := H
     have A9 := am_ A90
     clear A90
     obtain rfl := Option.some.inj H
     go_enter Try.func11, Try.ntmps11
     go_wp2_with (first | ((with_reducible refine gate_dst (N := 1) rfl ?_); refine box_event ?hg (N := 1) ?hd (cs := #[.slice A0_0 l0_0.length c0_0, .int .i64 a0_1, .string a0_2, .int .i64 a0_3]) (t := 27) ?hr ?_; (case hd => rfl); (case hg => rfl); (case hr => first | (go_simp; done) | (go_simp; rfl)); intro gb101 hg w10 hbox hb; have n0_ := am_ (below_step qz2_ hb); have n1_ := am_ (hbox); have n2_ := am_ ((by rw [hg]; exact (below_size qz2_) : w.heap.size ≤ gb101)); have n3_ := am_ ((by rw [hg]; exact (below_size qz2_) : w.heap.size ≤ gb101)); clear HB; have HB := n0_; have BK101 := n1_; have GW101 := n2_; have GE101 := n3_; clear n0_ n1_ n2_ n3_; clear hb hbox hg; have hcz11_0 : w10.cell? ⟨gb101, 0, none⟩ = some (.slice A0_0 l0_0.length c0_0) := (blk_cell BK101.out 0).trans rfl; have hcz11_1 : w10.cell? ⟨gb101, 1, none⟩ = some (.int .i64 a0_1) := (blk_cell BK101.out 1).trans rfl; have hcz11_2 : w10.cell? ⟨gb101, 2, none⟩ = some (.string a0_2) := (blk_cell BK101.out 2).trans rfl; have hcz11_3 : w10.cell? ⟨gb101, 3, none⟩ = some (.int .i64 a0_3) := (blk_cell BK101.out 3).trans rfl; have hfz11_0 := blk_frozen BK101.out 0; have hfz11_1 := blk_frozen BK101.out 1; have hfz11_2 := blk_frozen BK101.out 2; have hfz11_3 := blk_frozen BK101.out 3) | (go_at_call 42; (with_reducible refine (impl_are_Ext_ExtOK.calls  _ _ l0_0 true _ ?side1 ?side2 A3.out).mono ?_); (case side1 => exact qc_ (Kd.C_below HR0_0.out HB.out)); (case side2 => exact HC0_0.out); rintro e w12 ⟨rfl, hb⟩; have n0_ := am_ (blk_below (g := gb101) (o := .cells #[.slice A0_0 l0_0.length c0_0, .int .i64 a0_1, .string a0_2, .int .i64 a0_3] 27 (0, 0)) qz3_ hb); have n1_ := am_ (below_step qz15_ hb); clear BK101; clear HB; have BK101 := n0_; have HB := n1_; clear n0_ n1_; (try clear hb); (try clear hb2); (try clear hk); (try clear hi); have hcz13_0 : w12.cell? ⟨gb101, 0, none⟩ = some (.slice A0_0 l0_0.length c0_0) := (blk_cell BK101.out 0).trans rfl; have hcz13_1 : w12.cell? ⟨gb101, 1, none⟩ = some (.int .i64 a0_1) := (blk_cell BK101.out 1).trans rfl; have hcz13_2 : w12.cell? ⟨gb101, 2, none⟩ = some (.string a0_2) := (blk_cell BK101.out 2).trans rfl; have hcz13_3 : w12.cell? ⟨gb101, 3, none⟩ = some (.int .i64 a0_3) := (blk_cell BK101.out 3).trans rfl; have hfz13_0 := blk_frozen BK101.out 0; have hfz13_1 := blk_frozen BK101.out 1; have hfz13_2 := blk_frozen BK101.out 2; have hfz13_3 := blk_frozen BK101.out 3) | (go_at_call 47; (with_reducible refine (impl_isHash.calls a0_2 true _ A5.out).mono ?_); rintro e w' ⟨rfl, ⟨nd, rfl⟩⟩) | (go_at_call 44; (with_reducible refine (impl_in.calls a0_1 0 1000000 true _ A7.out).mono ?_); rintro e w' ⟨rfl, ⟨nd, rfl⟩⟩) | (go_at_call 44; (with_reducible refine (impl_in.calls a0_3 0 1000000 t105 _ A9.out).mono ?_); rintro e w' ⟨rfl, ⟨nd, rfl⟩⟩))
     go_ret
     exact ⟨qz4_, qz15_⟩
    ·
     replace c8 := Bool.eq_false_iff.mpr c8
     subst c8
     have H1 : (some false) = some r := by rw [if_neg (show ¬ (false = true) by decide)] at H; exact H
     clear H
     have H := H1
     clear H1
     obtain rfl := Option.some.inj H
     go_enter Try.func11, Try.ntmps11
     go_wp2_with (first | ((with_reducible refine gate_dst (N := 1) rfl ?_); refine box_event ?hg (N := 1) ?hd (cs := #[.slice A0_0 l0_0.length c0_0, .int .i64 a0_1, .string a0_2, .int .i64 a0_3]) (t := 27) ?hr ?_; (case hd => rfl); (case hg => rfl); (case hr => first | (go_simp; done) | (go_simp; rfl)); intro gb101 hg w14 hbox hb; have n0_ := am_ (below_step qz2_ hb); have n1_ := am_ (hbox); have n2_ := am_ ((by rw [hg]; exact (below_size qz2_) : w.heap.size ≤ gb101)); have n3_ := am_ ((by rw [hg]; exact (below_size qz2_) : w.heap.size ≤ gb101)); clear HB; have HB := n0_; have BK101 := n1_; have GW101 := n2_; have GE101 := n3_; clear n0_ n1_ n2_ n3_; clear hb hbox hg; have hcz15_0 : w14.cell? ⟨gb101, 0, none⟩ = some (.slice A0_0 l0_0.length c0_0) := (blk_cell BK101.out 0).trans rfl; have hcz15_1 : w14.cell? ⟨gb101, 1, none⟩ = some (.int .i64 a0_1) := (blk_cell BK101.out 1).trans rfl; have hcz15_2 : w14.cell? ⟨gb101, 2, none⟩ = some (.string a0_2) := (blk_cell BK101.out 2).trans rfl; have hcz15_3 : w14.cell? ⟨gb101, 3, none⟩ = some (.int .i64 a0_3) := (blk_cell BK101.out 3).trans rfl; have hfz15_0 := blk_frozen BK101.out 0; have hfz15_1 := blk_frozen BK101.out 1; have hfz15_2 := blk_frozen BK101.out 2; have hfz15_3 := blk_frozen BK101.out 3) | (go_at_call 42; (with_reducible refine (impl_are_Ext_ExtOK.calls  _ _ l0_0 true _ ?side1 ?side2 A3.out).mono ?_); (case side1 => exact qc_ (Kd.C_below HR0_0.out HB.out)); (case side2 => exact HC0_0.out); rintro e w16 ⟨rfl, hb⟩; have n0_ := am_ (blk_below (g := gb101) (o := .cells #[.slice A0_0 l0_0.length c0_0, .int .i64 a0_1, .string a0_2, .int .i64 a0_3] 27 (0, 0)) qz3_ hb); have n1_ := am_ (below_step qz15_ hb); clear BK101; clear HB; have BK101 := n0_; have HB := n1_; clear n0_ n1_; (try clear hb); (try clear hb2); (try clear hk); (try clear hi); have hcz17_0 : w16.cell? ⟨gb101, 0, none⟩ = some (.slice A0_0 l0_0.length c0_0) := (blk_cell BK101.out 0).trans rfl; have hcz17_1 : w16.cell? ⟨gb101, 1, none⟩ = some (.int .i64 a0_1) := (blk_cell BK101.out 1).trans rfl; have hcz17_2 : w16.cell? ⟨gb101, 2, none⟩ = some (.string a0_2) := (blk_cell BK101.out 2).trans rfl; have hcz17_3 : w16.cell? ⟨gb101, 3, none⟩ = some (.int .i64 a0_3) := (blk_cell BK101.out 3).trans rfl; have hfz17_0 := blk_frozen BK101.out 0; have hfz17_1 := blk_frozen BK101.out 1; have hfz17_2 := blk_frozen BK101.out 2; have hfz17_3 := blk_frozen BK101.out 3) | (go_at_call 47; (with_reducible refine (impl_isHash.calls a0_2 true _ A5.out).mono ?_); rintro e w' ⟨rfl, ⟨nd, rfl⟩⟩) | (go_at_call 44; (with_reducible refine (impl_in.calls a0_1 0 1000000 false _ A7.out).mono ?_); rintro e w' ⟨rfl, ⟨nd, rfl⟩⟩))
     go_ret
     exact ⟨qz4_, qz15_⟩
   ·
    replace c6 := Bool.eq_false_iff.mpr c6
    subst c6
    have H1 : (some false) = some r := by rw [if_neg (show ¬ (false = true) by decide)] at H; exact H
    clear H
    have H := H1
    clear H1
    obtain rfl := Option.some.inj H
    go_enter Try.func11, Try.ntmps11
    go_wp2_with (first | ((with_reducible refine gate_dst (N := 1) rfl ?_); refine box_event ?hg (N := 1) ?hd (cs := #[.slice A0_0 l0_0.length c0_0, .int .i64 a0_1, .string a0_2, .int .i64 a0_3]) (t := 27) ?hr ?_; (case hd => rfl); (case hg => rfl); (case hr => first | (go_simp; done) | (go_simp; rfl)); intro gb101 hg w18 hbox hb; have n0_ := am_ (below_step qz2_ hb); have n1_ := am_ (hbox); have n2_ := am_ ((by rw [hg]; exact (below_size qz2_) : w.heap.size ≤ gb101)); have n3_ := am_ ((by rw [hg]; exact (below_size qz2_) : w.heap.size ≤ gb101)); clear HB; have HB := n0_; have BK101 := n1_; have GW101 := n2_; have GE101 := n3_; clear n0_ n1_ n2_ n3_; clear hb hbox hg; have hcz19_0 : w18.cell? ⟨gb101, 0, none⟩ = some (.slice A0_0 l0_0.length c0_0) := (blk_cell BK101.out 0).trans rfl; have hcz19_1 : w18.cell? ⟨gb101, 1, none⟩ = some (.int .i64 a0_1) := (blk_cell BK101.out 1).trans rfl; have hcz19_2 : w18.cell? ⟨gb101, 2, none⟩ = some (.string a0_2) := (blk_cell BK101.out 2).trans rfl; have hcz19_3 : w18.cell? ⟨gb101, 3, none⟩ = some (.int .i64 a0_3) := (blk_cell BK101.out 3).trans rfl; have hfz19_0 := blk_frozen BK101.out 0; have hfz19_1 := blk_frozen BK101.out 1; have hfz19_2 := blk_frozen BK101.out 2; have hfz19_3 := blk_frozen BK101.out 3) | (go_at_call 42; (with_reducible refine (impl_are_Ext_ExtOK.calls  _ _ l0_0 true _ ?side1 ?side2 A3.out).mono ?_); (case side1 => exact qc_ (Kd.C_below HR0_0.out HB.out)); (case side2 => exact HC0_0.out); rintro e w20 ⟨rfl, hb⟩; have n0_ := am_ (blk_below (g := gb101) (o := .cells #[.slice A0_0 l0_0.length c0_0, .int .i64 a0_1, .string a0_2, .int .i64 a0_3] 27 (0, 0)) qz3_ hb); have n1_ := am_ (below_step qz15_ hb); clear BK101; clear HB; have BK101 := n0_; have HB := n1_; clear n0_ n1_; (try clear hb); (try clear hb2); (try clear hk); (try clear hi); have hcz21_0 : w20.cell? ⟨gb101, 0, none⟩ = some (.slice A0_0 l0_0.length c0_0) := (blk_cell BK101.out 0).trans rfl; have hcz21_1 : w20.cell? ⟨gb101, 1, none⟩ = some (.int .i64 a0_1) := (blk_cell BK101.out 1).trans rfl; have hcz21_2 : w20.cell? ⟨gb101, 2, none⟩ = some (.string a0_2) := (blk_cell BK101.out 2).trans rfl; have hcz21_3 : w20.cell? ⟨gb101, 3, none⟩ = some (.int .i64 a0_3) := (blk_cell BK101.out 3).trans rfl; have hfz21_0 := blk_frozen BK101.out 0; have hfz21_1 := blk_frozen BK101.out 1; have hfz21_2 := blk_frozen BK101.out 2; have hfz21_3 := blk_frozen BK101.out 3) | (go_at_call 47; (with_reducible refine (impl_isHash.calls a0_2 false _ A5.out).mono ?_); rintro e w' ⟨rfl, ⟨nd, rfl⟩⟩))
    go_ret
    exact ⟨qz4_, qz15_⟩
  ·
   replace c4 := Bool.eq_false_iff.mpr c4
   subst c4
   have H1 : (some false) = some r := by rw [if_neg (show ¬ (false = true) by decide)] at H; exact H
   clear H
   have H := H1
   clear H1
   obtain rfl := Option.some.inj H
   go_enter Try.func11, Try.ntmps11
   go_wp2_with (first | ((with_reducible refine gate_dst (N := 1) rfl ?_); refine box_event ?hg (N := 1) ?hd (cs := #[.slice A0_0 l0_0.length c0_0, .int .i64 a0_1, .string a0_2, .int .i64 a0_3]) (t := 27) ?hr ?_; (case hd => rfl); (case hg => rfl); (case hr => first | (go_simp; done) | (go_simp; rfl)); intro gb101 hg w22 hbox hb; have n0_ := am_ (below_step qz2_ hb); have n1_ := am_ (hbox); have n2_ := am_ ((by rw [hg]; exact (below_size qz2_) : w.heap.size ≤ gb101)); have n3_ := am_ ((by rw [hg]; exact (below_size qz2_) : w.heap.size ≤ gb101)); clear HB; have HB := n0_; have BK101 := n1_; have GW101 := n2_; have GE101 := n3_; clear n0_ n1_ n2_ n3_; clear hb hbox hg; have hcz23_0 : w22.cell? ⟨gb101, 0, none⟩ = some (.slice A0_0 l0_0.length c0_0) := (blk_cell BK101.out 0).trans rfl; have hcz23_1 : w22.cell? ⟨gb101, 1, none⟩ = some (.int .i64 a0_1) := (blk_cell BK101.out 1).trans rfl; have hcz23_2 : w22.cell? ⟨gb101, 2, none⟩ = some (.string a0_2) := (blk_cell BK101.out 2).trans rfl; have hcz23_3 : w22.cell? ⟨gb101, 3, none⟩ = some (.int .i64 a0_3) := (blk_cell BK101.out 3).trans rfl; have hfz23_0 := blk_frozen BK101.out 0; have hfz23_1 := blk_frozen BK101.out 1; have hfz23_2 := blk_frozen BK101.out 2; have hfz23_3 := blk_frozen BK101.out 3) | (go_at_call 42; (with_reducible refine (impl_are_Ext_ExtOK.calls  _ _ l0_0 false _ ?side1 ?side2 A3.out).mono ?_); (case side1 => exact qc_ (Kd.C_below HR0_0.out HB.out)); (case side2 => exact HC0_0.out); rintro e w24 ⟨rfl, hb⟩; have n0_ := am_ (blk_below (g := gb101) (o := .cells #[.slice A0_0 l0_0.length c0_0, .int .i64 a0_1, .string a0_2, .int .i64 a0_3] 27 (0, 0)) qz3_ hb); have n1_ := am_ (below_step qz15_ hb); clear BK101; clear HB; have BK101 := n0_; have HB := n1_; clear n0_ n1_; (try clear hb); (try clear hb2); (try clear hk); (try clear hi)))
   go_ret
   exact ⟨qz4_, qz15_⟩
 ·
  rw [if_neg c2] at H
  have c2b0 : decide ((l0_0.length : Int) ≤ 64) = false := decide_eq_false c2
  have c2b1 : decide (l0_0.length ≤ 64) = false := decide_eq_false (by omega)
  clear c2
  obtain rfl := Option.some.inj H
  go_enter Try.func11, Try.ntmps11
  go_wp2_with (first | ((with_reducible refine gate_dst (N := 1) rfl ?_); refine box_event ?hg (N := 1) ?hd (cs := #[.slice A0_0 l0_0.length c0_0, .int .i64 a0_1, .string a0_2, .int .i64 a0_3]) (t := 27) ?hr ?_; (case hd => rfl); (case hg => rfl); (case hr => first | (go_simp; done) | (go_simp; rfl)); intro gb101 hg w25 hbox hb; have n0_ := am_ (below_step qz2_ hb); have n1_ := am_ (hbox); have n2_ := am_ ((by rw [hg]; exact (below_size qz2_) : w.heap.size ≤ gb101)); have n3_ := am_ ((by rw [hg]; exact (below_size qz2_) : w.heap.size ≤ gb101)); clear HB; have HB := n0_; have BK101 := n1_; have GW101 := n2_; have GE101 := n3_; clear n0_ n1_ n2_ n3_; clear hb hbox hg; have hcz26_0 : w25.cell? ⟨gb101, 0, none⟩ = some (.slice A0_0 l0_0.length c0_0) := (blk_cell BK101.out 0).trans rfl; have hcz26_1 : w25.cell? ⟨gb101, 1, none⟩ = some (.int .i64 a0_1) := (blk_cell BK101.out 1).trans rfl; have hcz26_2 : w25.cell? ⟨gb101, 2, none⟩ = some (.string a0_2) := (blk_cell BK101.out 2).trans rfl; have hcz26_3 : w25.cell? ⟨gb101, 3, none⟩ = some (.int .i64 a0_3) := (blk_cell BK101.out 3).trans rfl; have hfz26_0 := blk_frozen BK101.out 0; have hfz26_1 := blk_frozen BK101.out 1; have hfz26_2 := blk_frozen BK101.out 2; have hfz26_3 := blk_frozen BK101.out 3))
  go_ret
  exact ⟨qz4_, qz15_⟩

def impl_Source_copied.f (l0_0 : List (S34)) (a0_1 : Int) (a0_2 : ByteArray) (a0_3 : Int) : Option ((List (S34)) × Int × ByteArray × Int) := (impl_Ext_45.f l0_0).bind fun t103 => (some (t103, a0_1, a0_2, a0_3))
set_option maxHeartbeats 8000000 in
set_option maxRecDepth 100000 in
theorem impl_Source_copied.calls (A0_0 : Option Addr) (c0_0 : Nat) (l0_0 : List (S34)) (a0_1 : Int) (a0_2 : ByteArray) (a0_3 : Int) (r1 : List (S34)) (r2 : Int) (r3 : ByteArray) (r4 : Int) (w : World) (hr0_0 : Kd.C k34 w A0_0 l0_0.length l0_0) (hc0_0 : l0_0.length ≤ c0_0) (h : impl_Source_copied.f l0_0 a0_1 a0_2 a0_3 = some (r1, r2, r3, r4)) :
  Calls Try.prog 48 #[.agg #[.slice A0_0 l0_0.length c0_0, .int .i64 a0_1, .string a0_2, .int .i64 a0_3]] w fun e w' => ∃ v0_ : Value, e = .returned (.agg #[v0_, .int .i64 r2, .string r3, .int .i64 r4]) ∧ Kd.R k34 34 w' w.heap.size (fun _ => True) v0_ r1 ∧ Below w.heap.size w w' := by
 have hu27 := Try.underlying27
 have HR0_0 := am_ hr0_0
 have HC0_0 := am_ hc0_0
 clear hr0_0 hc0_0
 have HB := am_ (Below.refl w.heap.size w)
 have H : ((impl_Ext_45.f l0_0).bind fun t103 => (some (t103, a0_1, a0_2, a0_3))) = some (r1, r2, r3, r4) := h
 clear h
 replace H := Option.bind_eq_some_iff.mp H
 obtain ⟨t103, A20, H⟩ := H
 replace H : (some (t103, a0_1, a0_2, a0_3)) = some (r1, r2, r3, r4) := H
 have A2 := am_ A20
 clear A20
 simp only [Option.some.injEq, Prod.mk.injEq] at H
 obtain ⟨rfl, rfl, rfl, rfl⟩ := H
 go_enter Try.func48, Try.ntmps48
 go_wp2_with (first | ((with_reducible refine gate_dst (N := 1) rfl ?_); refine box_event ?hg (N := 1) ?hd (cs := #[.slice A0_0 l0_0.length c0_0, .int .i64 a0_1, .string a0_2, .int .i64 a0_3]) (t := 27) ?hr ?_; (case hd => rfl); (case hg => rfl); (case hr => first | (go_simp; done) | (go_simp; rfl)); intro gb101 hg w3 hbox hb; have n0_ := am_ (below_step qz2_ hb); have n1_ := am_ (hbox); have n2_ := am_ ((by rw [hg]; exact (below_size qz2_) : w.heap.size ≤ gb101)); have n3_ := am_ ((by rw [hg]; exact (below_size qz2_) : w.heap.size ≤ gb101)); clear HB; have HB := n0_; have BK101 := n1_; have GW101 := n2_; have GE101 := n3_; clear n0_ n1_ n2_ n3_; clear hb hbox hg) | ((with_reducible refine gate_dst (N := 2) rfl ?_); refine box_event ?hg (N := 2) ?hd (cs := #[.slice none 0 0, .int .i64 0, .string (⟨#[]⟩ : ByteArray), .int .i64 0]) (t := 27) ?hr ?_; (case hd => rfl); (case hg => rfl); (case hr => first | (go_simp; done) | (go_simp; rfl)); intro gb102 hg w4 hbox hb; have n0_ := am_ (blk_below (g := gb101) (o := .cells #[.slice A0_0 l0_0.length c0_0, .int .i64 a0_1, .string a0_2, .int .i64 a0_3] 27 (0, 0)) qz3_ hb); have n1_ := am_ (below_step qz15_ hb); have n2_ := am_ (hbox); have n3_ := am_ ((by rw [hg]; exact (below_size qz15_) : w.heap.size ≤ gb102)); have n4_ := am_ ((by rw [hg]; exact (below_size qz15_) : w.heap.size ≤ gb102)); have n5_ := am_ ((by rw [hg]; exact Nat.ne_of_lt (blk_lt (g := gb101) (o := .cells #[.slice A0_0 l0_0.length c0_0, .int .i64 a0_1, .string a0_2, .int .i64 a0_3] 27 (0, 0)) qz3_) : gb101 ≠ gb102)); have n6_ := am_ ((by rw [hg]; exact Nat.ne_of_gt (blk_lt (g := gb101) (o := .cells #[.slice A0_0 l0_0.length c0_0, .int .i64 a0_1, .string a0_2, .int .i64 a0_3] 27 (0, 0)) qz3_) : gb102 ≠ gb101)); clear BK101; clear HB; have BK101 := n0_; have HB := n1_; have BK102 := n2_; have GW102 := n3_; have GE102 := n4_; have NB101_102 := n5_; have NB102_101 := n6_; clear n0_ n1_ n2_ n3_ n4_ n5_ n6_; clear hb hbox hg; have hnb5 := NB101_102.out; have hnc5 := NB102_101.out; have hcz6_0 : w4.cell? ⟨gb101, 0, none⟩ = some (.slice A0_0 l0_0.length c0_0) := (blk_cell BK101.out 0).trans rfl; have hcz6_1 : w4.cell? ⟨gb101, 1, none⟩ = some (.int .i64 a0_1) := (blk_cell BK101.out 1).trans rfl; have hcz6_2 : w4.cell? ⟨gb101, 2, none⟩ = some (.string a0_2) := (blk_cell BK101.out 2).trans rfl; have hcz6_3 : w4.cell? ⟨gb101, 3, none⟩ = some (.int .i64 a0_3) := (blk_cell BK101.out 3).trans rfl; have hfz6_0 := blk_frozen BK101.out 0; have hfz6_1 := blk_frozen BK101.out 1; have hfz6_2 := blk_frozen BK101.out 2; have hfz6_3 := blk_frozen BK101.out 3) | ((with_reducible refine gate_callee (f := 45) rfl ?_); refine goesL_ (some 5) rfl rfl Try.func45 (by kernel_rfl) rfl #[.slice A0_0 l0_0.length c0_0] rfl qz8_ ?_; (with_reducible refine (impl_Ext_45.calls _ _ l0_0 t103 _ ?side1 ?side2 A2.out).mono ?_); (case side1 => exact qc_ (Kd.C_below HR0_0.out HB.out)); (case side2 => exact HC0_0.out); rintro e w7 ⟨v104, rfl, ho0, hb⟩; refine ⟨_, rfl, ?_⟩; have n0_ := am_ (Kd.R_lower ho0 (below_size (by repeat (first | (with_reducible first | exact HB.out | apply below_alloc | apply pw_below_drewN | apply below_drew1 | refine below_set ?_ GE101.out | refine below_set ?_ GE102.out) | exact HB.out)))); have n1_ := am_ (blk_below (g := gb101) (o := .cells #[.slice A0_0 l0_0.length c0_0, .int .i64 a0_1, .string a0_2, .int .i64 a0_3] 27 (0, 0)) qz3_ hb); have n2_ := am_ (blk_below (g := gb102) (o := .cells #[.slice none 0 0, .int .i64 0, .string (⟨#[]⟩ : ByteArray), .int .i64 0] 27 (0, 0)) (by (with_reducible repeat (first | refine blk_drewN ?_ _ | refine blk_drew ?_ | refine blk_alloc ?_ _)); exact BK102.out) hb); have n3_ := am_ (below_step (by repeat (first | (with_reducible first | exact HB.out | apply below_alloc | apply pw_below_drewN | apply below_drew1 | refine below_set ?_ GE101.out | refine below_set ?_ GE102.out) | exact HB.out)) hb); clear BK101; clear BK102; clear HB; have HO105 := n0_; have BK101 := n1_; have BK102 := n2_; have HB := n3_; clear n0_ n1_ n2_ n3_; (try clear hb); (try clear hb2); (try clear hk); (try clear hi); (try clear ho0); obtain ⟨Ao8, co8, eo8⟩ := Kd.R_slice HO105.out; subst eo8; have hcz9_0 : w7.cell? ⟨gb101, 0, none⟩ = some (.slice A0_0 l0_0.length c0_0) := (blk_cell BK101.out 0).trans rfl; have hcz9_1 : w7.cell? ⟨gb101, 1, none⟩ = some (.int .i64 a0_1) := (blk_cell BK101.out 1).trans rfl; have hcz9_2 : w7.cell? ⟨gb101, 2, none⟩ = some (.string a0_2) := (blk_cell BK101.out 2).trans rfl; have hcz9_3 : w7.cell? ⟨gb101, 3, none⟩ = some (.int .i64 a0_3) := (blk_cell BK101.out 3).trans rfl; have hfz9_0 := blk_frozen BK101.out 0; have hfz9_1 := blk_frozen BK101.out 1; have hfz9_2 := blk_frozen BK101.out 2; have hfz9_3 := blk_frozen BK101.out 3; have hcz10_0 : w7.cell? ⟨gb102, 0, none⟩ = some (.slice none 0 0) := (blk_cell BK102.out 0).trans rfl; have hcz10_1 : w7.cell? ⟨gb102, 1, none⟩ = some (.int .i64 0) := (blk_cell BK102.out 1).trans rfl; have hcz10_2 : w7.cell? ⟨gb102, 2, none⟩ = some (.string (⟨#[]⟩ : ByteArray)) := (blk_cell BK102.out 2).trans rfl; have hcz10_3 : w7.cell? ⟨gb102, 3, none⟩ = some (.int .i64 0) := (blk_cell BK102.out 3).trans rfl; have hfz10_0 := blk_frozen BK102.out 0; have hfz10_1 := blk_frozen BK102.out 1; have hfz10_2 := blk_frozen BK102.out 2; have hfz10_3 := blk_frozen BK102.out 3))
 refine bodyPost_ret (results_cell_row rfl _ _ gb102 27 #[.slice Ao8 t103.length co8, .int .i64 a0_1, .string a0_2, .int .i64 a0_3] (0, 0) _ rfl (by (with_reducible repeat (first | refine blk_drewN ?_ _ | refine blk_drew ?_ | refine blk_alloc ?_ _)); refine blk_put (cs := #[.slice Ao8 t103.length co8, .int .i64 a0_1, .string a0_2, .int .i64 0]) ?_ 3 _ rfl; (with_reducible repeat (first | refine blk_drewN ?_ _ | refine blk_drew ?_ | refine blk_alloc ?_ _)); refine blk_put (cs := #[.slice Ao8 t103.length co8, .int .i64 a0_1, .string (⟨#[]⟩ : ByteArray), .int .i64 0]) ?_ 2 _ rfl; (with_reducible repeat (first | refine blk_drewN ?_ _ | refine blk_drew ?_ | refine blk_alloc ?_ _)); refine blk_put (cs := #[.slice Ao8 t103.length co8, .int .i64 0, .string (⟨#[]⟩ : ByteArray), .int .i64 0]) ?_ 1 _ rfl; (with_reducible repeat (first | refine blk_drewN ?_ _ | refine blk_drew ?_ | refine blk_alloc ?_ _)); refine blk_put (cs := #[.slice none 0 0, .int .i64 0, .string (⟨#[]⟩ : ByteArray), .int .i64 0]) ?_ 0 _ rfl; (with_reducible repeat (first | refine blk_drewN ?_ _ | refine blk_drew ?_ | refine blk_alloc ?_ _)); refine blk_far ?_ NB102_101.out _; (with_reducible repeat (first | refine blk_drewN ?_ _ | refine blk_drew ?_ | refine blk_alloc ?_ _)); exact BK102.out) Try.underlying27 rfl (by kernel_rfl)) rfl ?_
 exact ⟨_, by first | rfl | (simp [errW_none, errW_some] <;> rfl) | (simp [*, errW_none, errW_some] <;> rfl), by (with_reducible repeat (first | apply Kd.R_alloc | apply Kd.R_drewN | apply Kd.R_drew)); exact Kd.R_mono (Kd.R_far (p := ⟨gb102, 3, none⟩) (Kd.R_far (p := ⟨gb102, 2, none⟩) (Kd.R_far (p := ⟨gb102, 1, none⟩) (Kd.R_far (p := ⟨gb102, 0, none⟩) (Kd.R_far (p := ⟨gb101, 0, none⟩) (Kd.R_types (Kd.R_types HO105.out BK101.out (by decide)) BK102.out (by decide)) (fun _ hk => hk.1.2) (.slice Ao8 t103.length co8)) (fun _ hk => hk.2) (.slice Ao8 t103.length co8)) (fun _ hk => hk.2) (.int .i64 a0_1)) (fun _ hk => hk.2) (.string a0_2)) (fun _ hk => hk.2) (.int .i64 a0_3)) (fun _ hk => trivial), by repeat (first | (with_reducible first | exact HB.out | apply below_alloc | apply pw_below_drewN | apply below_drew1 | refine below_set ?_ GE101.out | refine below_set ?_ GE102.out) | exact HB.out)⟩

end Go.Proofs.Ytgookagndlfehaa.PT
end
section
/- Own parts of memory, each with what is known of it, and what is known of the rest: one fact that moves with the world. -/
namespace Go.Proofs.Ytgookagndlfehaa.PT
open Go.RowKit Go.Proofs.YtgookagndlfehaaW.PrintWords Go.Proofs.YtgookagndlfehaaW.PrintLast Go.Proofs.YtgookagndlfehaaW.PrintMore
set_option linter.unusedVariables false
set_option linter.unusedSimpArgs false
structure Grp where
 S : Nat → Prop
 A : World → Prop
structure Agr (w w' : World) (S : Nat → Prop) : Prop where
 os : w'.os = w.os
 tape : w'.tape = w.tape
 output : w'.output = w.output
 size : w.heap.size ≤ w'.heap.size
 block : ∀ k, k < w.heap.size → ¬ S k → w'.heap[k]? = w.heap[k]?
def NoB : Nat → Prop := fun _ => False
theorem Agr.refl (w : World) (S : Nat → Prop) : Agr w w S := ⟨rfl, rfl, rfl, Nat.le_refl _, fun _ _ _ => rfl⟩
theorem Agr.mono {w w' : World} {S T : Nat → Prop} (h : Agr w w' S) (hs : ∀ k, S k → T k) : Agr w w' T := ⟨h.os, h.tape, h.output, h.size, fun k hk hn => h.block k hk (fun hS => hn (hs k hS))⟩
theorem Agr.trans {w w1 w2 : World} {S T : Nat → Prop} (h : Agr w w1 S) (k : Agr w1 w2 T) (hT : ∀ i, T i → S i ∨ w.heap.size ≤ i) : Agr w w2 S :=
 ⟨k.os.trans h.os, k.tape.trans h.tape, k.output.trans h.output, Nat.le_trans h.size k.size, fun i hi hn => (k.block i (Nat.lt_of_lt_of_le hi h.size) (fun hk => (hT i hk).elim hn (fun h2 => absurd hi (Nat.not_lt.2 h2)))).trans (h.block i hi hn)⟩
theorem Agr.of_below {w w' : World} (h : Below w.heap.size w w') : Agr w w' NoB := ⟨h.os, h.tape, h.output, h.size, fun k hk _ => h.block k hk⟩
theorem Agr.below {w w' : World} (h : Agr w w' NoB) : Below w.heap.size w w' := ⟨h.os, h.tape, h.output, h.size, fun k hk => h.block k hk (fun h => h)⟩
theorem Agr.of_grown {w w' : World} {v : Value} (h : w.grownBy w' v.ownBlock) : Agr w w' (fun k => some k = v.ownBlock) := ⟨h.os, h.tape, h.output, h.size, fun k hk hn => h.block k hk hn⟩
theorem Agr.of_keep {w0 w w' : World} {g : Nat} (h : KeepBut w w' g none) (hb : Below w0.heap.size w0 w) (hb' : Below w0.heap.size w0 w') : Agr w w' (fun k => k = g) :=
 ⟨hb'.os.trans hb.os.symm, hb'.tape.trans hb.tape.symm, hb'.output.trans hb.output.symm, h.1, fun k hk hn => h.2 k hk hn (by simp)⟩
theorem Agr.keep {w w' : World} {g : Nat} (h : Agr w w' (fun k => k = g)) : KeepBut w w' g none := ⟨h.size, fun k hk hn _ => h.block k hk hn⟩
theorem Agr.cell {w w' : World} {S : Nat → Prop} (h : Agr w w' S) {a : Addr} {v : Value} (hc : w.cell? a = some v) (hn : ¬ S a.block) : w'.cell? a = some v := by
 have := h.block a.block (World.block_lt_of_cell? w a hc) hn
 simpa [World.cell?, this] using hc
theorem Agr.onto {w0 w w' : World} {S : Nat → Prop} (h : Agr w w' S) (hb : Below w0.heap.size w0 w) (hS : ∀ k, S k → w0.heap.size ≤ k) : Below w0.heap.size w0 w' :=
 ⟨h.os.trans hb.os, h.tape.trans hb.tape, h.output.trans hb.output, Nat.le_trans hb.size h.size, fun k hk => (h.block k (Nat.lt_of_lt_of_le hk hb.size) (fun hs => absurd hk (Nat.not_lt.2 (hS k hs)))).trans (hb.block k hk)⟩
def InL (L : List Grp) (k : Nat) : Prop := ∃ b, b ∈ L ∧ b.S k
structure Inv (w0 : World) (P : Nat → Prop) (w : World) (L : List Grp) (F : World → Prop) : Prop where
 agr : Agr w0 w P
 lt : ∀ b, b ∈ L → ∀ k, b.S k → k < w.heap.size
 new : ∀ b, b ∈ L → ∀ k, b.S k → w0.heap.size ≤ k ∨ P k
 own : ∀ b, b ∈ L → ∀ w', (∀ k, b.S k → w'.heap[k]? = w.heap[k]?) → b.A w'
 dis : L.Pairwise (fun a b => ∀ k, a.S k → ¬ b.S k)
 facts : ∀ w', Agr w w' (InL L) → F w'
namespace Inv
variable {w0 w w1 : World} {P : Nat → Prop} {L : List Grp} {F : World → Prop}
theorem start (w : World) (F : World → Prop) (hF : ∀ w', Below w.heap.size w w' → F w') : Inv w NoB w [] F :=
 ⟨Agr.refl _ _, fun _ h => (by cases h), fun _ h => (by cases h), fun _ h => (by cases h), List.Pairwise.nil, fun w' h => hF w' (h.mono (fun k hk => by obtain ⟨_, h, _⟩ := hk; cases h)).below⟩
theorem now (h : Inv w0 P w L F) : F w := h.facts w (Agr.refl _ _)
theorem get (h : Inv w0 P w L F) {b : Grp} (i : Nat) (hi : L[i]? = some b) : b.A w := h.own b (List.mem_of_getElem? hi) w (fun _ _ => rfl)
theorem below (h : Inv w0 NoB w L F) : Below w0.heap.size w0 w := h.agr.below
theorem weaken (h : Inv w0 P w L F) {G : World → Prop} (hG : ∀ w, F w → G w) : Inv w0 P w L G := ⟨h.agr, h.lt, h.new, h.own, h.dis, fun w' hw => hG _ (h.facts w' hw)⟩
theorem grow (h : Inv w0 P w L F) (hA : Below w.heap.size w w1) : Inv w0 P w1 L F :=
 ⟨h.agr.trans (Agr.of_below hA) (fun _ h => h.elim), fun b hb k hk => Nat.lt_of_lt_of_le (h.lt b hb k hk) hA.size, h.new, fun b hb w' hw => h.own b hb w' (fun k hk => (hw k hk).trans (hA.block k (h.lt b hb k hk))), h.dis,
  fun w' hw => h.facts w' ((Agr.mono (Agr.of_below hA) (fun _ h => h.elim)).trans hw (fun i hi => .inl hi))⟩
theorem push (h : Inv w0 P w L F) (hA : Below w.heap.size w w1) (b : Grp) (hS : ∀ k, b.S k → w.heap.size ≤ k ∧ k < w1.heap.size) (hown : ∀ w', (∀ k, b.S k → w'.heap[k]? = w1.heap[k]?) → b.A w') : Inv w0 P w1 (b :: L) F := by
 have hg := h.grow hA
 refine ⟨hg.agr, fun c hc k hk => ?_, fun c hc k hk => ?_, fun c hc w' hw => ?_, List.Pairwise.cons (fun c hc k hk hk2 => ?_) h.dis, fun w' hw => ?_⟩
 ·
  rcases List.mem_cons.1 hc with rfl | hc
  ·
   exact (hS k hk).2
  ·
   exact hg.lt c hc k hk
 ·
  rcases List.mem_cons.1 hc with rfl | hc
  ·
   exact .inl (Nat.le_trans h.agr.size (hS k hk).1)
  ·
   exact h.new c hc k hk
 ·
  rcases List.mem_cons.1 hc with rfl | hc
  ·
   exact hown w' hw
  ·
   exact hg.own c hc w' hw
 ·
  exact absurd (h.lt c hc k hk2) (Nat.not_lt.2 (hS k hk).1)
 ·
  refine h.facts w' ((Agr.mono (Agr.of_below hA) (fun _ h => h.elim)).trans hw (fun i hi => ?_))
  obtain ⟨c, hc, hk⟩ := hi
  rcases List.mem_cons.1 hc with rfl | hc
  ·
   exact .inr (hS i hk).1
  ·
   exact .inl ⟨c, hc, hk⟩
theorem know (h : Inv w0 P w L F) (hA : Below w.heap.size w w1) (G : World → Prop) (hG : ∀ w', (∀ k, w.heap.size ≤ k → k < w1.heap.size → w'.heap[k]? = w1.heap[k]?) → G w') : Inv w0 P w1 L (fun w => G w ∧ F w) := by
 have hg := h.grow hA
 refine ⟨hg.agr, hg.lt, hg.new, hg.own, hg.dis, fun w' hw => ⟨hG w' (fun k h1 h2 => hw.block k h2 (fun hi => ?_)), hg.facts w' hw⟩⟩
 obtain ⟨c, hc, hk⟩ := hi
 exact absurd (h.lt c hc k hk) (Nat.not_lt.2 h1)
theorem freeze {b : Grp} (h : Inv w0 P w (b :: L) F) : Inv w0 P w L (fun w => b.A w ∧ F w) := by
 refine ⟨h.agr, fun c hc => h.lt c (List.mem_cons_of_mem _ hc), fun c hc => h.new c (List.mem_cons_of_mem _ hc), fun c hc => h.own c (List.mem_cons_of_mem _ hc), (List.pairwise_cons.1 h.dis).2, fun w' hw => ⟨?_, h.facts w' (hw.mono ?_)⟩⟩
 ·
  refine h.own b List.mem_cons_self w' (fun k hk => hw.block k (h.lt b List.mem_cons_self k hk) (fun hi => ?_))
  obtain ⟨c, hc, hk2⟩ := hi
  exact (List.pairwise_cons.1 h.dis).1 c hc k hk hk2
 ·
  rintro k ⟨c, hc, hk⟩
  exact ⟨c, List.mem_cons_of_mem _ hc, hk⟩
theorem drop {b : Grp} (h : Inv w0 P w (b :: L) F) : Inv w0 P w L F := h.freeze.weaken (fun _ h => h.2)
theorem perm {L' : List Grp} (h : Inv w0 P w L F) (hp : L.Perm L') : Inv w0 P w L' F :=
 ⟨h.agr, fun b hb => h.lt b (hp.mem_iff.2 hb), fun b hb => h.new b (hp.mem_iff.2 hb), fun b hb => h.own b (hp.mem_iff.2 hb), (hp.pairwise_iff (fun {a b} hab k hk hk2 => hab k hk2 hk)).1 h.dis, fun w' hw => h.facts w' (hw.mono (fun k ⟨b, hb, hk⟩ => ⟨b, hp.mem_iff.2 hb, hk⟩))⟩
theorem swap {a b : Grp} (h : Inv w0 P w (a :: b :: L) F) : Inv w0 P w (b :: a :: L) F := h.perm (List.Perm.swap _ _ _)
theorem swap1 {a b c : Grp} (h : Inv w0 P w (a :: b :: c :: L) F) : Inv w0 P w (a :: c :: b :: L) F := h.perm ((List.Perm.swap _ _ _).cons _)
theorem front2 {a b c : Grp} (h : Inv w0 P w (a :: b :: c :: L) F) : Inv w0 P w (c :: a :: b :: L) F := h.swap1.swap
theorem front3 {a b c d : Grp} (h : Inv w0 P w (a :: b :: c :: d :: L) F) : Inv w0 P w (d :: a :: b :: c :: L) F := (h.perm (((List.Perm.swap _ _ _).cons _).cons _)).front2
theorem front4 {a b c d e : Grp} (h : Inv w0 P w (a :: b :: c :: d :: e :: L) F) : Inv w0 P w (e :: a :: b :: c :: d :: L) F := (h.perm ((((List.Perm.swap _ _ _).cons _).cons _).cons _)).front3
theorem back2 {a b c : Grp} (h : Inv w0 P w (c :: a :: b :: L) F) : Inv w0 P w (a :: b :: c :: L) F := h.swap.swap1
theorem step {b : Grp} (h : Inv w0 P w (b :: L) F) (hA : Agr w w1 b.S) (b' : Grp) (hS : ∀ k, b'.S k → (b.S k ∨ w.heap.size ≤ k) ∧ k < w1.heap.size) (hown : ∀ w', (∀ k, b'.S k → w'.heap[k]? = w1.heap[k]?) → b'.A w') : Inv w0 P w1 (b' :: L) F := by
 have hm : ∀ c, c ∈ L → ∀ k, c.S k → k < w.heap.size ∧ ¬ b.S k := fun c hc k hk => ⟨h.lt c (List.mem_cons_of_mem _ hc) k hk, fun hb => (List.pairwise_cons.1 h.dis).1 c hc k hb hk⟩
 refine ⟨h.agr.trans hA (fun i hi => (h.new b List.mem_cons_self i hi).symm), fun c hc k hk => ?_, fun c hc k hk => ?_, fun c hc w' hw => ?_, List.Pairwise.cons (fun c hc k hk hk2 => ?_) (List.pairwise_cons.1 h.dis).2, fun w' hw => ?_⟩
 ·
  rcases List.mem_cons.1 hc with rfl | hc
  ·
   exact (hS k hk).2
  ·
   exact Nat.lt_of_lt_of_le (hm c hc k hk).1 hA.size
 ·
  rcases List.mem_cons.1 hc with rfl | hc
  ·
   rcases (hS k hk).1 with h1 | h1
   ·
    exact h.new b List.mem_cons_self k h1
   ·
    exact .inl (Nat.le_trans h.agr.size h1)
  ·
   exact h.new c (List.mem_cons_of_mem _ hc) k hk
 ·
  rcases List.mem_cons.1 hc with rfl | hc
  ·
   exact hown w' hw
  ·
   exact h.own c (List.mem_cons_of_mem _ hc) w' (fun k hk => (hw k hk).trans (hA.block k (hm c hc k hk).1 (hm c hc k hk).2))
 ·
  rcases (hS k hk).1 with h1 | h1
  ·
   exact (hm c hc k hk2).2 h1
  ·
   exact absurd (hm c hc k hk2).1 (Nat.not_lt.2 h1)
 ·
  refine h.facts w' ((hA.mono (fun k hk => ⟨b, List.mem_cons_self, hk⟩)).trans hw (fun i hi => ?_))
  obtain ⟨c, hc, hk⟩ := hi
  rcases List.mem_cons.1 hc with rfl | hc
  ·
   exact (hS i hk).1.imp (fun h1 => ⟨b, List.mem_cons_self, h1⟩) id
  ·
   exact .inl ⟨c, List.mem_cons_of_mem _ hc, hk⟩
theorem drew (h : Inv w0 P w L F) : Inv w0 P w.drew L F := h.grow (below_drew (Below.refl _ _))
theorem drewN (h : Inv w0 P w L F) (n : Nat) : Inv w0 P (w.drewN n) L F := h.grow (pw_below_drewN (Below.refl _ _) n)
theorem alloc (h : Inv w0 P w L F) (o : Obj) : Inv w0 P (w.alloc o) L F := h.grow (below_alloc (Below.refl _ _) o)
end Inv
def blk (g : Nat) (t : TypeId) (cs : Array Value) : Grp := ⟨fun k => k = g, fun w => w.heap[g]? = some (.cells cs t (0, 0))⟩
def row {α : Type} (d : Kd α) (e base : Nat) (v : Value) (xs : List α) (S : Nat → Prop) : Grp := ⟨S, fun w => d.R e w base S v xs⟩
namespace Inv
variable {w0 w w1 : World} {P : Nat → Prop} {L : List Grp} {F : World → Prop}
theorem box (h : Inv w0 P w L F) {g : Nat} {t : TypeId} {cs : Array Value} (hg : g = w.heap.size) (hbox : w1.heap[g]? = some (.cells cs t (0, 0))) (hb : Below w.heap.size w w1) : Inv w0 P w1 (blk g t cs :: L) F :=
 h.push hb (blk g t cs) (fun k hk => by obtain rfl : k = g := hk; exact ⟨Nat.le_of_eq hg.symm, blk_lt hbox⟩) (fun w' hw => (hw g rfl).trans hbox)
theorem startP {g : Nat} {t : TypeId} {cs : Array Value} (w : World) (hb : w.heap[g]? = some (.cells cs t (0, 0))) (F : World → Prop) (hF : ∀ w', Agr w w' (fun k => k = g) → F w') : Inv w (fun k => k = g) w [blk g t cs] F :=
 ⟨Agr.refl _ _, fun b h k hk => (by obtain rfl := List.mem_singleton.1 h; obtain rfl : k = g := hk; exact blk_lt hb), fun b h k hk => (by obtain rfl := List.mem_singleton.1 h; exact .inr hk),
  fun b h w' hw => (by obtain rfl := List.mem_singleton.1 h; exact (hw g rfl).trans hb), List.pairwise_singleton _ _, fun w' hw => hF w' (hw.mono (fun k ⟨b, hb, hk⟩ => by obtain rfl := List.mem_singleton.1 hb; exact hk))⟩
theorem blk0 {g : Nat} {t : TypeId} {cs : Array Value} (h : Inv w0 P w (blk g t cs :: L) F) : w.heap[g]? = some (.cells cs t (0, 0)) := h.get 0 rfl
theorem ge0 {g : Nat} {t : TypeId} {cs : Array Value} (h : Inv w0 NoB w (blk g t cs :: L) F) : w0.heap.size ≤ g := (h.new _ List.mem_cons_self g rfl).elim id (fun h => h.elim)
theorem put0 {g : Nat} {t : TypeId} {cs : Array Value} (h : Inv w0 P w (blk g t cs :: L) F) (new : Array Value) : Inv w0 P (w.setRow g new) (blk g t new :: L) F :=
 h.step (w1 := w.setRow g new) ⟨rfl, rfl, rfl, (by simp), fun k _ hn => setRow_other _ _ _ _ hn⟩ (blk g t new) (fun k hk => ⟨.inl hk, (by obtain rfl : k = g := hk; simpa using blk_lt h.blk0)⟩) (fun w' hw => (hw g rfl).trans (setRow_heap _ _ _ _ _ _ h.blk0))
theorem set0 {g : Nat} {t : TypeId} {cs : Array Value} (h : Inv w0 P w (blk g t cs :: L) F) (j : Nat) (v : Value) : Inv w0 P (w.setCell ⟨g, j, none⟩ v) (blk g t (cs.setIfInBounds j v) :: L) F :=
 h.step (w1 := w.setCell ⟨g, j, none⟩ v) ⟨rfl, rfl, rfl, by simp [World.setCell], fun k _ hn => Below.heap_setCell w ⟨g, j, none⟩ v k hn⟩ (blk g t _) (fun k hk => ⟨.inl hk, (by obtain rfl : k = g := hk; have := blk_lt (blk_set h.blk0 j v); exact this)⟩) (fun w' hw => (hw g rfl).trans (blk_set h.blk0 j v))
theorem ne01 {g g' : Nat} {t t' : TypeId} {cs cs' : Array Value} (h : Inv w0 P w (blk g t cs :: blk g' t' cs' :: L) F) : g ≠ g' := fun e => (List.pairwise_cons.1 h.dis).1 _ List.mem_cons_self g rfl e
theorem rowPush {α : Type} {d : Kd α} {e : Nat} {v : Value} {xs : List α} {ok : Nat → Prop} (h : Inv w0 P w L F) (hb : Below w.heap.size w w1) (hR : d.R e w1 w.heap.size ok v xs) :
  Inv w0 P w1 (row d e w0.heap.size v xs (fun k => w.heap.size ≤ k ∧ k < w1.heap.size) :: L) F := by
 have hR2 : d.R e w1 w0.heap.size (fun k => w.heap.size ≤ k ∧ k < w1.heap.size) v xs := Kd.R_lower (Kd.R_mono (Kd.R_bound hR) (fun k hk => ⟨hk.2.1, hk.2.2.1⟩)) h.agr.size
 exact h.push hb _ (fun k hk => hk) (fun w' hw => Kd.R_step hR2 (fun k hk _ => hw k hk))
theorem rowKnow {α : Type} {d : Kd α} {e : Nat} {v : Value} {xs : List α} {ok : Nat → Prop} (h : Inv w0 P w L F) (hb : Below w.heap.size w w1) (hR : d.R e w1 w.heap.size ok v xs) :
  ∃ A c, v = .slice A xs.length c ∧ xs.length ≤ c ∧ Inv w0 P w1 L (fun w => d.C w A xs.length xs ∧ F w) := by
 have hR2 : d.R e w1 w.heap.size (fun k => w.heap.size ≤ k ∧ k < w1.heap.size) v xs := Kd.R_mono (Kd.R_bound hR) (fun k hk => ⟨hk.2.1, hk.2.2.1⟩)
 obtain ⟨A, c, rfl, hc, _⟩ := Kd.R_reads hR
 refine ⟨A, c, rfl, hc, h.know hb _ (fun w' hw => ?_)⟩
 obtain ⟨A', c', e, _, hC⟩ := Kd.R_reads (Kd.R_step hR2 (fun k hk _ => hw k hk.1 hk.2))
 cases e
 exact hC
theorem row0 {α : Type} {d : Kd α} {e b : Nat} {v : Value} {xs : List α} {S : Nat → Prop} (h : Inv w0 P w (row d e b v xs S :: L) F) : d.R e w b S v xs := h.get 0 rfl
theorem row0W {α : Type} {d : Kd α} {e b : Nat} {v : Value} {xs : List α} {S : Nat → Prop} (h : Inv w0 P w (row d e b v xs S :: L) F) : d.R e w b (fun k => S k ∨ w.heap.size ≤ k) v xs := Kd.R_mono h.row0 (fun _ hk => .inl hk)
theorem grown0 {α : Type} {d : Kd α} {e b : Nat} {v v1 : Value} {xs ys : List α} {S ok : Nat → Prop} (h : Inv w0 P w (row d e b v xs S :: L) F) (hb : Below b w w1) (hR : d.R e w1 b ok v1 ys) (hok : ∀ k, ok k → k < w1.heap.size → S k ∨ w.heap.size ≤ k) (hg : w.grownBy w1 v.ownBlock) :
  Inv w0 P w1 (row d e b v1 ys (fun k => (S k ∨ w.heap.size ≤ k) ∧ k < w1.heap.size) :: L) F := by
 have hR2 : d.R e w1 b (fun k => (S k ∨ w.heap.size ≤ k) ∧ k < w1.heap.size) v1 ys := Kd.R_mono (Kd.R_bound hR) (fun k hk => ⟨hok k hk.1 hk.2.2.1, hk.2.2.1⟩)
 exact h.step ((Agr.of_grown hg).mono (fun k hk => h.row0.1 k hk.symm)) _ (fun k hk => hk) (fun w' hw => Kd.R_step hR2 (fun k hk _ => hw k hk))
end Inv
end Go.Proofs.Ytgookagndlfehaa.PT
end
section
/- A text's bytes as a row that grows: its block bears a mark behind its cells, so the kit's own rows do not take it. -/
namespace Go.Proofs.Ytgookagndlfehaa.PT
open Go.RowKit Go.Proofs.YtgookagndlfehaaW.PrintWords Go.Proofs.YtgookagndlfehaaW.PrintLast Go.Proofs.YtgookagndlfehaaW.PrintMore
set_option linter.unusedVariables false
set_option linter.unusedSimpArgs false
def Free (fz : Nat × Nat) (n : Nat) : Prop := ∀ j, j < n → ¬ (fz.1 ≤ j ∧ j < fz.2)
def RowT (w : World) (base : Nat) (v : Value) (xs : List Int) : Prop :=
 ∃ g cap cur fz, v = .slice (some ⟨g, 0, none⟩) xs.length cap ∧ base ≤ g ∧ w.heap[g]? = some (.cells cur 5 fz) ∧ Free fz cap ∧ xs.length ≤ cap ∧ cap ≤ maxLen ∧ cur.size = cap ∧ cur.toList.take xs.length = nums .u8 xs
theorem nmL (k : IntKind) (xs : List Int) : (nums k xs).length = xs.length := by simp [nums]
theorem hao (w : World) (o : Obj) {k : Nat} (h : k < w.heap.size) : (w.alloc o).heap[k]? = w.heap[k]? := by
 show (w.heap.push o)[k]? = w.heap[k]?
 rw [Array.getElem?_push, if_neg (Nat.ne_of_lt h)]
theorem blk_setF {w : World} {g : Nat} {t : TypeId} {cs : Array Value} {fz : Nat × Nat} (h : w.heap[g]? = some (.cells cs t fz)) (i : Nat) (u : Value) : (w.setCell ⟨g, i, none⟩ u).heap[g]? = some (.cells (cs.setIfInBounds i u) t fz) := by
 simp [World.setCell, Array.getElem?_modify, h]
theorem RowT.move {w w' : World} {base : Nat} {v : Value} {xs : List Int} (h : RowT w base v xs) (hk : ∀ k, v.ownBlock = some k → w'.heap[k]? = w.heap[k]?) : RowT w' base v xs := by
 obtain ⟨g, cap, cur, fz, rfl, hb, hg, r⟩ := h
 exact ⟨g, cap, cur, fz, rfl, hb, (hk g (by simp [Value.ownBlock])).trans hg, r⟩
theorem RowT.base {w : World} {base : Nat} {v : Value} {xs : List Int} (h : RowT w base v xs) : ∀ k, v.ownBlock = some k → base ≤ k ∧ k < w.heap.size := by
 obtain ⟨g, cap, cur, fz, rfl, hb, hg, r⟩ := h
 intro k hk
 obtain rfl : g = k := by simpa [Value.ownBlock] using hk
 exact ⟨hb, blk_lt hg⟩
theorem RowT.cell {w : World} {base : Nat} {v : Value} {xs : List Int} (h : RowT w base v xs) {g : Nat} (hv : v.ownBlock = some g) {j : Nat} (hj : j < xs.length) : w.cell? ⟨g, j, none⟩ = some (.int .u8 (xs.getD j 0)) ∧ w.frozen? ⟨g, j, none⟩ = false := by
 obtain ⟨g', cap, cur, fz, rfl, hb, hg, hf, hn, hm, hs, ht⟩ := h
 obtain rfl : g' = g := by simpa [Value.ownBlock] using hv
 have h1 : cur.toList[j]? = some (.int .u8 (xs.getD j 0)) := by
  have h2 : (cur.toList.take xs.length)[j]? = (nums .u8 xs)[j]? := by rw [ht]
  rw [List.getElem?_take, if_pos hj] at h2
  rw [h2]
  simp [nums, List.getD, hj]
 refine ⟨?_, ?_⟩
 ·
  simp only [World.cell?, hg]
  simpa using h1
 ·
  have := hf j (by omega)
  obtain ⟨lo, hi⟩ := fz
  simp only [World.frozen?, hg, Bool.and_eq_false_iff, decide_eq_false_iff_not]
  simp only at this
  omega
theorem RowT.reads {w : World} {base : Nat} {v : Value} {xs : List Int} (h : RowT w base v xs) : ∃ A c, v = .slice A xs.length c ∧ xs.length ≤ c ∧ (Kd.int .u8).C w A xs.length xs := by
 obtain ⟨g, cap, cur, fz, rfl, hb, hg, hf, hn, hm, hs, ht⟩ := id h
 refine ⟨_, _, rfl, hn, Kd.C_of_reads (d := (0 : Int)) ⟨rfl, by unfold maxLen at hm; omega, fun _ => ⟨_, rfl, fun j hj => ?_⟩⟩⟩
 rw [add_plain]
 exact (h.cell (by simp [Value.ownBlock]) hj).1
theorem cur_put {cur : Array Value} {n : Nat} (b : Value) (h : n < cur.size) : (cur.setIfInBounds n b).toList.take (n + 1) = cur.toList.take n ++ [b] := by
 rw [Array.toList_setIfInBounds, List.take_add_one, List.take_set_of_le (Nat.le_refl n)]
 simp [h]
theorem RowT.append1 {W : World} {base : Nat} {v : Value} {xs : List Int} (h : RowT W base v xs) (hl : xs.length + 1 ≤ 140737488355328) (hbase : base ≤ W.heap.size) (b : Int) (ty : TypeId) :
  ∃ v1 w1, (Builtin.append_ #[22, 22] ty #[v, .slice (some ⟨W.heap.size, 0, none⟩) 1 1]).run Try.prog (W.alloc (.cells #[.int .u8 b] 5)) = .ok v1 w1 ∧ RowT w1 base v1 (xs ++ [b]) ∧ W.grownBy w1 v.ownBlock ∧ (v1.ownBlock = v.ownBlock ∨ ∃ k, v1.ownBlock = some k ∧ W.heap.size ≤ k) := by
 obtain ⟨i, hi, hz0, hz1, hz2⟩ := info_parts info5
 have hu := Try.underlying22
 obtain ⟨g, cap, cur, fz, rfl, hb, hg, hf, hn, hm, hs, ht⟩ := id h
 have hlt := blk_lt hg
 have hg2 : (W.alloc (.cells #[.int .u8 b] 5)).heap[g]? = some (.cells cur 5 fz) := (hao W _ hlt).trans hg
 have hc2 : (W.alloc (.cells #[.int .u8 b] 5)).cell? ((⟨W.heap.size, 0, none⟩ : Addr).add 0) = some (.int .u8 b) := by rw [add_plain]; exact World.cell?_alloc_new _ _ _ _
 have hnews : ∀ j u, [Value.int .u8 b][j]? = some u → (W.alloc (.cells #[.int .u8 b] 5)).cell? ((⟨W.heap.size, 0, none⟩ : Addr).add j) = some u := by
  intro j u hj
  match j with
  | 0 => simp at hj; subst hj; exact hc2
  | j + 1 => simp at hj
 by_cases hroom : xs.length + 1 ≤ cap
 ·
  have hff := run_firstCells_some (P := Try.prog) (W.alloc (.cells #[.int .u8 b] 5)) i.size 1 ⟨W.heap.size, 0, none⟩ 1 1 [.int .u8 b] (by rw [hz1]; rfl) hnews
  have hcell : (W.alloc (.cells #[.int .u8 b] 5)).cell? ⟨g, xs.length, none⟩ = some (cur[xs.length]'(by omega)) := by simp [World.cell?, hg2, show xs.length < cur.size by omega]
  have hfr : (W.alloc (.cells #[.int .u8 b] 5)).frozen? ⟨g, xs.length, none⟩ = false := by
   have := hf xs.length (by omega)
   obtain ⟨lo, hi⟩ := fz
   simp only [World.frozen?, hg2, Bool.and_eq_false_iff, decide_eq_false_iff_not]
   simp only at this
   omega
  have hst : (storeCells ⟨g, xs.length, none⟩ [.int .u8 b] 0).run Try.prog (W.alloc (.cells #[.int .u8 b] 5)) = .ok () ((W.alloc (.cells #[.int .u8 b] 5)).setCell ⟨g, xs.length, none⟩ (.int .u8 b)) := by
   have hadd : (⟨g, xs.length, none⟩ : Addr).add 0 = ⟨g, xs.length, none⟩ := by unfold Addr.add; split <;> simp_all
   simp only [storeCells, Sem.run_bind, hadd]
   rw [run_store Try.prog _ _ _ _ rfl, hcell]
   simp [hfr, Result.andThen]
  refine ⟨.slice (some ⟨g, 0, none⟩) (xs.length + 1) cap, (W.alloc (.cells #[.int .u8 b] 5)).setCell ⟨g, xs.length, none⟩ (.int .u8 b), ?_, ⟨g, cap, cur.setIfInBounds xs.length (.int .u8 b), fz, (by simp), hb, ?_, hf, (by simpa using hroom), hm, (by simpa using hs), ?_⟩, ⟨rfl, rfl, rfl, (by simp [World.setCell]), fun k hk hne => ?_⟩, .inl rfl⟩
  ·
   have hoff : (⟨g, 0, none⟩ : Addr).add (xs.length * 1) = ⟨g, xs.length, none⟩ := by rw [add_plain, Nat.mul_one]
   rw [hz1] at hff
   simp [Builtin.append_, run_underlying hu, sizeOf, typeInfo, hi, hz1, Builtin.lenOf, hroom, hff, Addr.add_lit, hst]
  ·
   exact blk_setF hg2 xs.length _
  ·
   rw [List.length_append, show xs.length + [b].length = xs.length + 1 from rfl, cur_put _ (by omega), ht]
   simp [nums]
  ·
   rw [Below.heap_setCell _ ⟨g, xs.length, none⟩ _ k (by intro he; exact hne (by simp [Value.ownBlock, he]))]
   exact hao W _ hk
 ·
  have holds : ∀ j u, (nums .u8 xs)[j]? = some u → (W.alloc (.cells #[.int .u8 b] 5)).cell? ((⟨g, 0, none⟩ : Addr).add j) = some u := by
   intro j u hj
   have hjl : j < xs.length := by
    have := (List.getElem?_eq_some_iff.1 hj).1
    rwa [nmL] at this
   rw [add_plain, World.cell?_alloc_old _ _ _ (show (⟨g, j, none⟩ : Addr).block ≠ W.heap.size from Nat.ne_of_lt hlt), (h.cell (by simp [Value.ownBlock]) hjl).1, ← hj]
   simp [nums, List.getD, hjl]
  have hr := run_append_grow (P := Try.prog) (W.alloc (.cells #[.int .u8 b] 5)) 22 ty 5 i (.int .u8 0) hu hi hz0 ⟨g, 0, none⟩ xs.length cap (nums .u8 xs) (by rw [nmL, hz1, Nat.mul_one]) holds ⟨W.heap.size, 0, none⟩ 1 1 [.int .u8 b] (by rw [hz1]; rfl) hnews (by omega) (by omega) (growslice_fits (by omega) (by rw [hz2]; omega))
  have hge := grownCap_ge (W.alloc (.cells #[.int .u8 b] 5)) (xs.length + 1) cap 5
  have hle := grownCap_le_maxLen (W.alloc (.cells #[.int .u8 b] 5)) (xs.length + 1) cap 5 (by unfold maxLen; omega)
  refine ⟨_, _, hr, ⟨_, _, _, (0, 0), (by rw [List.length_append]; rfl), (by simp; omega), heap_alloc_new _ _, fun j _ hj => by simp at hj, (by simpa using hge), hle, ?_, ?_⟩, ⟨rfl, rfl, rfl, (by simp; omega), fun k hk _ => ?_⟩, .inr ⟨_, rfl, (by simp)⟩⟩
  ·
   simp only [Array.size_append, List.size_toArray, nmL, size_zeroCells]
   simp [Value.cells]
   omega
  ·
   simp only [Array.toList_append, List.append_assoc]
   rw [← List.append_assoc, List.length_append, show xs.length + [b].length = (nums .u8 xs ++ [Value.int .u8 b]).length by simp [nmL]]
   rw [List.take_left]
   simp [nums]
  ·
   rw [hao _ _ (by simp; omega)]
   exact hao W _ hk
theorem RowT.lower {w : World} {b b' : Nat} {v : Value} {xs : List Int} (h : RowT w b v xs) (hb : b' ≤ b) : RowT w b' v xs := by
 obtain ⟨g, cap, cur, fz, rfl, h1, r⟩ := h
 exact ⟨g, cap, cur, fz, rfl, Nat.le_trans hb h1, r⟩
theorem RowT.bytes (w : World) (t : ByteArray) (h : t.size ≤ 2000000) : RowT (Go.Lib.bytesWorld w 5 t) w.heap.size (.slice (some ⟨w.heap.size, 0, none⟩) t.size (grownCap w t.size 0 5)) (nums_ t) := by
 have hge := grownCap_ge w t.size 0 5
 have hle := grownCap_le_maxLen w t.size 0 5 (by unfold maxLen; omega)
 have hs : (Go.Lib.bytesCells w 5 t).size = grownCap w t.size 0 5 := by
  simp only [Go.Lib.bytesCells, Array.size_append, Array.size_map, Array.size_replicate]
  have : t.data.size = t.size := rfl
  omega
 refine ⟨w.heap.size, _, _, _, (by rw [nums_length]), Nat.le_refl _, Go.Lib.bytesWorld_at_new w 5 t, ?_, (by rw [nums_length]; exact hge), hle, hs, ?_⟩
 ·
  intro j hj hh
  rw [hs] at hh
  exact absurd hh.1 (Nat.not_le.2 hj)
 ·
  rw [nums_length]
  unfold Go.Lib.bytesCells nums nums_
  rw [Array.toList_append, List.take_append_of_le_length (by simp), List.take_of_length_le (by simp)]
  simp [List.map_map]
theorem RowT.set {w : World} {base g : Nat} {v : Value} {xs : List Int} (h : RowT w base v xs) (hv : v.ownBlock = some g) {i : Nat} (hi : i < xs.length) (x : Int) : RowT (w.setCell ⟨g, i, none⟩ (.int .u8 x)) base v (xs.set i x) := by
 obtain ⟨g', cap, cur, fz, rfl, hb, hg, hf, hn, hm, hs, ht⟩ := h
 obtain rfl : g' = g := by simpa [Value.ownBlock] using hv
 refine ⟨g', cap, _, fz, (by simp), hb, blk_setF hg i _, hf, (by simpa using hn), hm, (by simpa using hs), ?_⟩
 rw [Array.toList_setIfInBounds, List.length_set]
 unfold nums at ht ⊢
 rw [List.map_set, ← ht, List.take_set]
def rowT (base : Nat) (v : Value) (xs : List Int) : Grp := ⟨fun k => v.ownBlock = some k, fun w => RowT w base v xs⟩
namespace Inv
variable {w0 w w1 : World} {P : Nat → Prop} {L : List Grp} {F : World → Prop}
theorem pushT {v : Value} {xs : List Int} (h : Inv w0 P w L F) (hb : Below w.heap.size w w1) (hR : RowT w1 w.heap.size v xs) : Inv w0 P w1 (rowT w0.heap.size v xs :: L) F :=
 h.push hb _ (fun k hk => hR.base k hk) (fun w' hw => (hR.lower h.agr.size).move hw)
theorem rowT0 {b : Nat} {v : Value} {xs : List Int} (h : Inv w0 P w (rowT b v xs :: L) F) : RowT w b v xs := h.get 0 rfl
theorem stepT {b : Nat} {v v1 : Value} {xs ys : List Int} (h : Inv w0 P w (rowT b v xs :: L) F) (hg : w.grownBy w1 v.ownBlock) (hR : RowT w1 b v1 ys) (hat : v1.ownBlock = v.ownBlock ∨ ∃ k, v1.ownBlock = some k ∧ w.heap.size ≤ k) : Inv w0 P w1 (rowT b v1 ys :: L) F :=
 h.step ((Agr.of_grown hg).mono (fun k hk => hk.symm)) _ (fun k hk => ⟨by rcases hat with e | ⟨k2, e, hle⟩; exact .inl (by show v.ownBlock = some k; rw [← e]; exact hk); exact .inr (by rw [show v1.ownBlock = some k from hk] at e; injection e with e; rw [e]; exact hle), (hR.base k hk).2⟩) (fun w' hw => hR.move hw)
end Inv
section
variable {ops : Array Oper} {o : Oper} {rest : List Oper} {a : Act} {Q : Exit → Act → World → Prop}
theorem wpT_append {W : World} {base : Nat} (hgd : o.guard = none) (s x : Operand) (ho : o.op = .call { callee := .builtin .append, args := #[s, x], argTypes := #[22, 22] }) (v : Value) (xs : List Int) (b : Int) (hs : a.eval s = v) (hx : a.eval x = .slice (some ⟨W.heap.size, 0, none⟩) 1 1)
  (h : RowT W base v xs) (hl : xs.length + 1 ≤ 140737488355328) (hbase : base ≤ W.heap.size)
  (k : ∀ v1 w1, RowT w1 base v1 (xs ++ [b]) → W.grownBy w1 v.ownBlock → (v1.ownBlock = v.ownBlock ∨ ∃ k, v1.ownBlock = some k ∧ W.heap.size ≤ k) → wpList Try.prog ops Q rest (a.put o.dst v1) w1) :
  wpList Try.prog ops Q (o :: rest) a (W.alloc (.cells #[.int .u8 b] 5)) := by
 obtain ⟨v1, w1, hr, h1, hg, hat⟩ := h.append1 hl hbase b o.type
 refine wpList_plain hgd fun K hK => ?_
 unfold Oper.wp execOp
 simp only [ho, resolve, invoke, builtin, Sem.run_bind, Sem.run_pure, Result.andThen_ok, List.map_toArray, List.map_cons, List.map_nil, hs, hx, hr]
 exact hK _ _ (k v1 w1 h1 hg hat)
end
end Go.Proofs.Ytgookagndlfehaa.PT
end
section
/- A constant text's bytes: the literal's row bears a mark; what is appended makes a new row. -/
namespace Go.Proofs.Ytgookagndlfehaa.PT
open Go.RowKit Go.Proofs.YtgookagndlfehaaW.PrintWords Go.Proofs.YtgookagndlfehaaW.PrintLast Go.Proofs.YtgookagndlfehaaW.PrintMore
set_option linter.unusedVariables false
set_option linter.unusedSimpArgs false
theorem freeze_at {w : World} {g n : Nat} {c : Array Value} {t : TypeId} (h : w.heap[g]? = some (.cells c t (0, 0))) : (w.freeze ⟨g, n, none⟩ 1).heap[g]? = some (.cells c t (n, n + 1)) := by
 simp [World.freeze, Array.getElem?_modify, h]
theorem freeze_old {w : World} {g n k : Nat} (h : g ≠ k) : (w.freeze ⟨g, n, none⟩ 1).heap[k]? = w.heap[k]? := by
 simp [World.freeze, Array.getElem?_modify, h]
theorem freeze_size {w : World} {g n : Nat} : (w.freeze ⟨g, n, none⟩ 1).heap.size = w.heap.size := by
 simp [World.freeze]
theorem conv_lit (W : World) (xs : List Int) (hl : xs.length ≤ 1000000) : ∃ w2, (convert 22 22 (.slice (some ⟨W.heap.size, 0, none⟩) xs.length xs.length)).run Try.prog (W.alloc (.cells (nums .u8 xs).toArray 5)) = .ok (.slice (some ⟨W.heap.size, 0, none⟩) xs.length xs.length) w2 ∧
  RowT w2 W.heap.size (.slice (some ⟨W.heap.size, 0, none⟩) xs.length xs.length) xs ∧ Below W.heap.size W w2 := by
 have hu := run_underlying (P := Try.prog) Try.underlying22
 have hv := run_underlying (P := Try.prog) Try.underlying5
 have hsh : (W.alloc (.cells (nums .u8 xs).toArray 5)).shape? W.heap.size = some (5, xs.length) := by
  unfold World.shape?
  rw [heap_alloc_new]
  simp [nums]
 have hg : ((W.alloc (.cells (nums .u8 xs).toArray 5)).freeze ⟨W.heap.size, xs.length, none⟩ 1).heap[W.heap.size]? = some (.cells (nums .u8 xs).toArray 5 (xs.length, xs.length + 1)) := by
  exact freeze_at (heap_alloc_new W _)
 refine ⟨(W.alloc (.cells (nums .u8 xs).toArray 5)).freeze ⟨W.heap.size, xs.length, none⟩ 1, ?_, ⟨W.heap.size, xs.length, (nums .u8 xs).toArray, (xs.length, xs.length + 1), rfl, Nat.le_refl _, hg, ?_, Nat.le_refl _, (by unfold maxLen; omega), (by simp [nums]), ?_⟩, ⟨rfl, rfl, rfl, ?_, fun k hk => ?_⟩⟩
 ·
  simp [convert, hu, hv, markStringish, hsh, Result.andThen]
 ·
  intro j hj hh
  exact absurd hh.1 (Nat.not_le.2 hj)
 ·
  rw [List.take_of_length_le (by simp [nums])]
 ·
  rw [freeze_size]; simp
 ·
  rw [freeze_old (by omega)]
  exact hao W _ hk
theorem RowT.grow {W : World} {base g n : Nat} {xs ys : List Int} (h : RowT W base (.slice (some ⟨g, 0, none⟩) n n) xs) {A : Option Addr} {c : Nat} (hC : (Kd.int .u8).C W A ys.length ys) (hm : 0 < ys.length) (hl : xs.length + ys.length ≤ 1000000) (ty : TypeId) :
  ∃ v1 w1, (Builtin.append_ #[22, 22] ty #[.slice (some ⟨g, 0, none⟩) n n, .slice A ys.length c]).run Try.prog W = .ok v1 w1 ∧ Kd.R (Kd.int .u8) 5 w1 W.heap.size (fun _ => True) v1 (xs ++ ys) ∧ Below W.heap.size W w1 := by
 obtain ⟨i, hi, hz0, hz1, hz2⟩ := info_parts info5
 have hu := Try.underlying22
 obtain ⟨g', cap, cur, fz, e, hb, hg, hf, hn, hcm, hs, ht⟩ := id h
 injection e with e1 e2 e3
 injection e1 with e1
 injection e1 with e1 _ _
 subst e1
 subst e2
 subst e3
 obtain ⟨_, _, hr⟩ := hC
 obtain ⟨ad, rfl, hc⟩ := hr hm
 have hnews : ∀ j u, (nums .u8 ys)[j]? = some u → W.cell? (ad.add j) = some u := by
  intro j u hj
  have hjl : j < ys.length := by have := (List.getElem?_eq_some_iff.1 hj).1; rwa [nmL] at this
  obtain ⟨cc, hcl, hK, hcells⟩ := hc j (ys[j]) (by simp [hjl])
  have h2 : cc = [.int .u8 ys[j]] := hK
  subst h2
  have h3 := hcells 0 _ rfl
  rw [show (Kd.int .u8).sz = 1 from rfl, Nat.mul_one, Nat.add_zero] at h3
  rw [h3, ← hj]
  simp [nums, hjl]
 have holds : ∀ j u, (nums .u8 xs)[j]? = some u → W.cell? ((⟨g, 0, none⟩ : Addr).add j) = some u := by
  intro j u hj
  have hjl : j < xs.length := by have := (List.getElem?_eq_some_iff.1 hj).1; rwa [nmL] at this
  rw [add_plain, (h.cell (by simp [Value.ownBlock]) hjl).1, ← hj]
  simp [nums, List.getD, hjl]
 have hr := run_append_grow (P := Try.prog) W 22 ty 5 i (.int .u8 0) hu hi hz0 ⟨g, 0, none⟩ xs.length xs.length (nums .u8 xs) (by rw [nmL, hz1, Nat.mul_one]) holds ad ys.length c (nums .u8 ys) (by rw [nmL, hz1, Nat.mul_one]) hnews (by omega) (by omega) (growslice_fits (by omega) (by rw [hz2]; omega))
 have hge := grownCap_ge W (xs.length + ys.length) xs.length 5
 have hle := grownCap_le_maxLen W (xs.length + ys.length) xs.length 5 (by unfold maxLen; omega)
 refine ⟨_, _, hr, ?_, below_alloc (below_drew (Below.refl _ _)) _⟩
 refine ⟨fun _ _ => trivial, nums .u8 (xs ++ ys), ⟨by rw [nmL]; exact (Nat.mul_one _).symm, .inr ⟨W.heap.size, _, _, (by rw [List.length_append]), Nat.le_refl _, heap_alloc_new _ _, (by rw [List.length_append]; exact hge), hle, ?_, ?_⟩⟩, ?_⟩
 ·
  simp only [Array.size_append, List.size_toArray, nmL, size_zeroCells]
  simp [Value.cells, Kd.int, Kd.scalar]
  omega
 ·
  have e2 : (xs ++ ys).length * (Kd.int .u8).sz = (nums .u8 (xs ++ ys)).length := by rw [nmL]; exact Nat.mul_one _
  rw [e2, show nums .u8 (xs ++ ys) = nums .u8 xs ++ nums .u8 ys by simp [nums]]
  simp only [Array.toList_append]
  exact List.take_left
 ·
  exact Kd.reps_scalar (enc := Value.int .u8) (xs ++ ys)
section
variable {ops : Array Oper} {o : Oper} {rest : List Oper} {a : Act} {Q : Exit → Act → World → Prop}
theorem wpT_grow {W : World} {base g n : Nat} (hgd : o.guard = none) (s x : Operand) (ho : o.op = .call { callee := .builtin .append, args := #[s, x], argTypes := #[22, 22] }) (xs ys : List Int) {A : Option Addr} {c : Nat} (hs : a.eval s = .slice (some ⟨g, 0, none⟩) n n) (hx : a.eval x = .slice A ys.length c)
  (h : RowT W base (.slice (some ⟨g, 0, none⟩) n n) xs) (hC : (Kd.int .u8).C W A ys.length ys) (hm : 0 < ys.length) (hl : xs.length + ys.length ≤ 1000000)
  (k : ∀ v1 w1, Kd.R (Kd.int .u8) 5 w1 W.heap.size (fun _ => True) v1 (xs ++ ys) → Below W.heap.size W w1 → wpList Try.prog ops Q rest (a.put o.dst v1) w1) : wpList Try.prog ops Q (o :: rest) a W := by
 obtain ⟨v1, w1, hr, h1, hb⟩ := h.grow hC hm hl o.type (c := c)
 refine wpList_plain hgd fun K hK => ?_
 unfold Oper.wp execOp
 simp only [ho, resolve, invoke, builtin, Sem.run_bind, Sem.run_pure, Result.andThen_ok, List.map_toArray, List.map_cons, List.map_nil, hs, hx, hr]
 exact hK _ _ (k v1 w1 h1 hb)
end
end Go.Proofs.Ytgookagndlfehaa.PT
end
section
/- Own parts of memory: what later texts need besides. -/
namespace Go.Proofs.Ytgookagndlfehaa.PT
open Go.RowKit Go.Proofs.YtgookagndlfehaaW.PrintWords Go.Proofs.YtgookagndlfehaaW.PrintLast Go.Proofs.YtgookagndlfehaaW.PrintMore
set_option linter.unusedVariables false
set_option linter.unusedSimpArgs false
namespace Inv
variable {w0 w w1 : World} {P : Nat → Prop} {L : List Grp} {F : World → Prop}
theorem kept0 {α : Type} {d : Kd α} {e b : Nat} {v v1 : Value} {xs ys : List α} {S ok : Nat → Prop} (h : Inv w0 NoB w (row d e b v xs S :: L) F) (hB : Below w0.heap.size w0 w1) (hk : Kept w w1 S) (hR : d.R e w1 b ok v1 ys) (hok : ∀ k, ok k → S k ∨ w.heap.size ≤ k) :
  Inv w0 NoB w1 (row d e b v1 ys (fun k => (S k ∨ w.heap.size ≤ k) ∧ k < w1.heap.size) :: L) F := by
 have hR2 : d.R e w1 b (fun k => (S k ∨ w.heap.size ≤ k) ∧ k < w1.heap.size) v1 ys := Kd.R_mono (Kd.R_bound hR) (fun k hk => ⟨hok k hk.1, hk.2.2.1⟩)
 have hb := h.below
 exact h.step ⟨hB.os.trans hb.os.symm, hB.tape.trans hb.tape.symm, hB.output.trans hb.output.symm, hk.1, fun k hlt hn => hk.2 k hlt hn⟩ _ (fun k hk => hk) (fun w' hw => Kd.R_step hR2 (fun k hk _ => hw k hk))
end Inv
def impl_four.f (l0 : List Int) (a1 : Int) : Option (List Int) := (some (([(a1 / 16777216) % 256, (a1 / 65536) % 256, (a1 / 256) % 256, (a1) % 256] : List Int) : List Int)).bind fun y101 => (if l0.length + y101.length < 140737488355328 then (some (l0 ++ y101)) else (none))
set_option maxHeartbeats 8000000 in
set_option maxRecDepth 100000 in
theorem impl_four.calls (P0_ : Nat → Prop) (u9000_ : Value) (l0 : List Int) (a1 : Int) (r : List Int) (w0 w : World) (hB : Below w0.heap.size w0 w) (ho0 : Kd.R (Kd.int .u8) 5 w w0.heap.size P0_ u9000_ l0) (h : impl_four.f l0 a1 = some r) :
  Calls Try.prog 88 #[u9000_, .int .i64 a1] w fun e w' => ∃ v0_ : Value, e = .returned (v0_) ∧ Kd.R (Kd.int .u8) 5 w' w0.heap.size (fun k_ => (P0_ k_ ∨ w.heap.size ≤ k_)) v0_ r ∧ Below w0.heap.size w0 w' ∧ Kept w w' (fun k_ => P0_ k_) := by
 have HO0 := am_ (show Kd.R (Kd.int .u8) 5 w w0.heap.size (fun k_ => (P0_ k_ ∨ w.heap.size ≤ k_)) u9000_ l0 from Kd.R_mono ho0 (fun k_ hk => (.inl hk)))
 have HK := am_ (Kept.refl w (fun k_ => P0_ k_))
 have HW0 := am_ hB.size
 have HB := am_ hB
 clear hB
 have H : ((some (([(a1 / 16777216) % 256, (a1 / 65536) % 256, (a1 / 256) % 256, (a1) % 256] : List Int) : List Int)).bind fun y101 => (if l0.length + y101.length < 140737488355328 then (some (l0 ++ y101)) else (none))) = some r := h
 clear h
 obtain ⟨y101, hy101⟩ : ∃ y_ : List Int, y_ = (([(a1 / 16777216) % 256, (a1 / 65536) % 256, (a1 / 256) % 256, (a1) % 256] : List Int)) := ⟨_, rfl⟩
 replace H : (if l0.length + y101.length < 140737488355328 then (some (l0 ++ y101)) else (none)) = some r := by first | (rw [hy101]; with_reducible exact H) | (have H2_ := (Option.bind_some _ _).symm.trans H; rw [hy101]; with_reducible exact H2_) | (have H2_ := (Option.bind_some _ _).symm.trans H; with_reducible exact H2_) | with_reducible exact H | (rw [hy101]; exact H) | exact H
 have Ny101 := am_ hy101
 clear hy101
 by_cases c3 : l0.length + y101.length < 140737488355328
 ·
  rw [if_pos c3] at H
  have LMc3 := am_ c3
  clear c3
  obtain ⟨y104, hy104⟩ : ∃ y_ : List Int, y_ = (l0 ++ y101) := ⟨_, rfl⟩
  replace H : (some y104) = some r := by first | (rw [hy104]; with_reducible exact H) | (have H2_ := (Option.bind_some _ _).symm.trans H; rw [hy104]; with_reducible exact H2_) | (have H2_ := (Option.bind_some _ _).symm.trans H; with_reducible exact H2_) | with_reducible exact H | (rw [hy104]; exact H) | exact H
  have Ny104 := am_ hy104
  clear hy104
  obtain rfl := Option.some.inj H
  go_enter Try.func88, Try.ntmps88
  go_wp2_with (first | ((with_reducible refine gate_dst (N := 17) rfl ?_); refine Kd.R_lit (Kd.int .u8) _ 5 ?hg (N := 17) ?hd (xs := ([(a1 / 16777216) % 256, (a1 / 65536) % 256, (a1 / 256) % 256, (a1) % 256] : List Int)) (inner := [.int .u8 ((a1 / 16777216) % 256), .int .u8 ((a1 / 65536) % 256), .int .u8 ((a1 / 256) % 256), .int .u8 ((a1) % 256)]) (ok := fun _ => True) (okp := fun _ => True) ?hr ?hp (fun _ hk => hk) trivial (Below.refl _ _) (Nat.le_refl _) (by simp) ?_; (case hd => rfl); (case hg => rfl); (case hr => first | (go_simp; done) | (go_simp; rfl)); (case hp => exact (Reps.one (show Kd.M (Kd.int .u8) _ _ _ ((a1 / 16777216) % 256) [.int .u8 ((a1 / 16777216) % 256)] from rfl) (Reps.one (show Kd.M (Kd.int .u8) _ _ _ ((a1 / 65536) % 256) [.int .u8 ((a1 / 65536) % 256)] from rfl) (Reps.one (show Kd.M (Kd.int .u8) _ _ _ ((a1 / 256) % 256) [.int .u8 ((a1 / 256) % 256)] from rfl) (Reps.one (show Kd.M (Kd.int .u8) _ _ _ ((a1) % 256) [.int .u8 ((a1) % 256)] from rfl) (Reps.none _ _)))))); intro v102 w4 ho5 hb hg_ hnew_; clear hg_ hnew_; (first | rw [← Ny101.out] at ho5 | (simp only [Int.reduceToNat] at ho5; rw [← Ny101.out] at ho5)); have n0_ := am_ (Kd.R_elder' (by (with_reducible repeat (first | apply Kd.R_alloc | apply Kd.R_drewN | apply Kd.R_drew)); exact HO0.out) (Kd.R_base ho5) hb); have n1_ := am_ (Kd.R_lower (Kd.R_new' (Kd.R_newM (M := fun k_ => (P0_ k_ ∨ w.heap.size ≤ k_)) ho5 (by first | exact HK.out.1 | exact (show Kept w _ (fun k_ => P0_ k_) from by repeat (first | (with_reducible first | exact HK.out | apply Kept.alloc | apply Kept.drewN | apply Kept.drew) | exact HK.out)).1) (fun k_ h_ => .inr h_)) (Kd.R_lt (by (with_reducible repeat (first | apply Kd.R_alloc | apply Kd.R_drewN | apply Kd.R_drew)); exact HO0.out))) (below_size qz2_)); have n2_ := am_ (Kept.below (S := (fun k_ => P0_ k_)) (by repeat (first | (with_reducible first | exact HK.out | apply Kept.alloc | apply Kept.drewN | apply Kept.drew) | exact HK.out)) hb); have n3_ := am_ (below_step qz2_ hb); clear HO0; clear HK; clear HB; have HO0 := n0_; have HO103 := n1_; have HK := n2_; have HB := n3_; clear n0_ n1_ n2_ n3_; clear hb ho5; obtain ⟨Ao7, co7, eo7⟩ := Kd.R_slice HO103.out; subst eo7) | ((with_reducible refine gate_builtin (b := .append) (xs := #[.tmp 5, .tmp 17]) rfl ?_); at_builtin; refine Kd.R_append_rows (Kd.int .u8) (w0 := w0) w0.heap.size rfl (.tmp 5) (.tmp 17) 22 5 (.int .u8 0) 1 rfl Try.underlying22 info5 rfl (by decide) (by omega) u9000_ l0 y101 _ _ _ (fun k_ => (P0_ k_ ∨ w.heap.size ≤ k_) ∧ some k_ ≠ (.slice Ao7 y101.length co7 : Value).ownBlock) (fun _ => False) rfl rfl ?aO ?aR (fun _ _ h => h) (fun _ h => h.elim) ?aF ?aB ?aS ?aL ?_; (case aR => exact qc_ (Kd.R_reads' HO103.out).2.2); (case aB => exact qz2_); (case aF => exact (fun k_ hk => ⟨(.inr (Nat.le_trans (by first | exact HK.out.1 | exact (show Kept w _ (fun k_ => P0_ k_) from by repeat (first | (with_reducible first | exact HK.out | apply Kept.alloc | apply Kept.drewN | apply Kept.drew) | exact HK.out)).1) hk)), Kd.fresh' (Kd.R_lt (by (with_reducible repeat (first | apply Kd.R_alloc | apply Kd.R_drewN | apply Kd.R_drew)); exact HO103.out)) k_ hk⟩)); (case aO => exact (by (with_reducible repeat (first | apply Kd.R_alloc | apply Kd.R_drewN | apply Kd.R_drew)); exact HO0.out)); (case aS => exact (below_size qz2_)); (case aL => have := LMc3.out; omega); intro v105 w6 ho hb hg hat; rw [← Ny104.out] at ho; have n0_ := am_ (Kd.R_after (ok := (fun k_ => (P0_ k_ ∨ w.heap.size ≤ k_))) (by (with_reducible repeat (first | apply Kd.R_alloc | apply Kd.R_drewN | apply Kd.R_drew)); exact Kd.R_mono HO103.out (fun _ hk => ⟨hk.1.1, hk.2⟩)) hg hat); have n1_ := am_ (hb); have n2_ := am_ (Kept.of_grown (S := (fun k_ => P0_ k_)) hg (by repeat (first | (with_reducible first | exact HK.out | apply Kept.alloc | apply Kept.drewN | apply Kept.drew) | exact HK.out)) (fun k_ e_ => (HO0.out.1 k_ e_).1)); have n3_ := am_ (ho); clear HO103; clear HB; clear HK; clear HO0; have HO103 := n0_; have HB := n1_; have HK := n2_; have HO106 := n3_; clear n0_ n1_ n2_ n3_; clear ho hb hg hat))
  go_ret
  exact ⟨_, qz4_, (by (with_reducible repeat (first | apply Kd.R_alloc | apply Kd.R_drewN | apply Kd.R_drew)); exact Kd.R_mono HO106.out (fun _ hk => hk.1)), qz2_, (by repeat (first | (with_reducible first | exact HK.out | apply Kept.alloc | apply Kept.drewN | apply Kept.drew) | exact HK.out))⟩
 ·
  rw [if_neg c3] at H
  exact absurd H (by simp)

end Go.Proofs.Ytgookagndlfehaa.PT
end
section
/- What the hashes of several pieces need: a constant's row at any place, pieces as a literal row, a number's four bytes. -/
namespace Go.Proofs.Ytgookagndlfehaa.PT
open Go.RowKit Go.Proofs.YtgookagndlfehaaW.PrintWords Go.Proofs.YtgookagndlfehaaW.PrintLast Go.Proofs.YtgookagndlfehaaW.PrintMore
set_option linter.unusedVariables false
set_option linter.unusedSimpArgs false
def four_ (n : Int) : List Int := [(n / 16777216) % 256, (n / 65536) % 256, (n / 256) % 256, n % 256]
theorem four_eq {l : List Int} {n : Int} (h : l.length + 4 < 140737488355328) : impl_four.f l n = some (l ++ four_ n) := by
 unfold impl_four.f
 exact if_pos h
theorem four_length (n : Int) : (four_ n).length = 4 := rfl
theorem conv_mark {W : World} {gl : Nat} {xs : List Int} (hg : W.heap[gl]? = some (.cells (nums .u8 xs).toArray 5 (0, 0))) (hl : xs.length ≤ 1000000) :
  (convert 22 22 (.slice (some ⟨gl, 0, none⟩) xs.length xs.length)).run Try.prog W = .ok (.slice (some ⟨gl, 0, none⟩) xs.length xs.length) (W.freeze ⟨gl, xs.length, none⟩ 1) ∧
  (∀ w', w'.heap[gl]? = (W.freeze ⟨gl, xs.length, none⟩ 1).heap[gl]? → (Kd.int .u8).C w' (some ⟨gl, 0, none⟩) xs.length xs) := by
 have hu := run_underlying (P := Try.prog) Try.underlying22
 have hv := run_underlying (P := Try.prog) Try.underlying5
 have hsh : W.shape? gl = some (5, xs.length) := by
  unfold World.shape?
  rw [hg]
  simp [nums]
 refine ⟨?_, fun w' hw => ?_⟩
 ·
  simp [convert, hu, hv, markStringish, hsh, Result.andThen]
 ·
  rw [freeze_at hg] at hw
  have hR : RowT w' gl (.slice (some ⟨gl, 0, none⟩) xs.length xs.length) xs := ⟨gl, xs.length, (nums .u8 xs).toArray, (xs.length, xs.length + 1), rfl, Nat.le_refl _, hw, fun j hj hh => absurd hh.1 (Nat.not_le.2 hj), Nat.le_refl _, (by unfold maxLen; omega), (by simp [nums]), (by rw [List.take_of_length_le (by simp [nums])])⟩
  obtain ⟨A, c, e, _, hC⟩ := hR.reads
  injection e with e1 e2 e3
  rw [e1]
  exact hC
namespace Inv
variable {w0 w w1 : World} {P : Nat → Prop} {L : List Grp} {F : World → Prop}
theorem marked {gl : Nat} {xs : List Int} (h : Inv w0 P w (blk gl 5 (nums .u8 xs).toArray :: L) F) (hl : xs.length ≤ 1000000) :
  Inv w0 P (w.freeze ⟨gl, xs.length, none⟩ 1) L (fun w => (Kd.int .u8).C w (some ⟨gl, 0, none⟩) xs.length xs ∧ F w) := by
 have hm := (conv_mark h.blk0 hl).2
 have h2 : Inv w0 P (w.freeze ⟨gl, xs.length, none⟩ 1) (⟨fun k => k = gl, fun w => (Kd.int .u8).C w (some ⟨gl, 0, none⟩) xs.length xs⟩ :: L) F :=
  h.step (w1 := w.freeze ⟨gl, xs.length, none⟩ 1) ⟨rfl, rfl, rfl, (by rw [freeze_size]; exact Nat.le_refl _), fun k _ hn => freeze_old (fun e => hn e.symm)⟩ ⟨fun k => k = gl, fun w => (Kd.int .u8).C w (some ⟨gl, 0, none⟩) xs.length xs⟩ (fun k hk => ⟨.inl hk, (by rw [freeze_size]; obtain rfl : k = gl := hk; exact blk_lt h.blk0)⟩) (fun w' hw => hm w' (hw gl rfl))
 exact h2.freeze
end Inv
def Piece (v : Value) (xs : List Int) (w : World) : Prop := ∃ A c, v = .slice A xs.length c ∧ xs.length ≤ c ∧ (Kd.int .u8).C w A xs.length xs
namespace Inv
variable {w0 w w1 : World} {P : Nat → Prop} {L : List Grp} {F : World → Prop}
theorem mark_ev {gl : Nat} {xs : List Int} (h : Inv w0 P w (blk gl 5 (nums .u8 xs).toArray :: L) F) (hl : xs.length ≤ 1000000) :
  ∃ w1, (convert 22 22 (.slice (some ⟨gl, 0, none⟩) xs.length xs.length)).run Try.prog w = .ok (.slice (some ⟨gl, 0, none⟩) xs.length xs.length) w1 ∧ Inv w0 P w1 L (fun w => Piece (.slice (some ⟨gl, 0, none⟩) xs.length xs.length) xs w ∧ F w) :=
 ⟨_, (conv_mark h.blk0 hl).1, (h.marked hl).weaken (fun _ h => ⟨⟨_, _, rfl, Nat.le_refl _, h.1⟩, h.2⟩)⟩
theorem conv_ev {t : ByteArray} (h : Inv w0 P w L F) (hl : t.size ≤ 2000000) :
  ∃ v w1, (convert 9 22 (.string t)).run Try.prog w = .ok v w1 ∧ Inv w0 P w1 L (fun w => Piece v (nums_ t) w ∧ F w) := by
 have hr := Go.Lib.run_convert_string_bytes (P := Try.prog) w 9 22 5 t Try.underlying9 Try.underlying22 Try.underlying5
 exact ⟨_, _, hr, (h.pushT (bytes_below w t) (RowT.bytes w t hl)).freeze.weaken (fun _ h => ⟨by obtain ⟨A, c, e, hc, hC⟩ := RowT.reads h.1; exact ⟨A, c, e, hc, hC⟩, h.2⟩)⟩
theorem lit_ev (h : Inv w0 P w L F) (cs : Array Value) (t : TypeId) : Inv w0 P (w.alloc (.cells cs t)) (blk w.heap.size t cs :: L) F :=
 h.box rfl (heap_alloc_new _ _) (below_alloc (Below.refl _ _) _)
theorem four_ev (h : Inv w0 P w L F) (n : Int) : Calls Try.prog 88 #[.slice none 0 0, .int .i64 n] w (fun e w1 => ∃ v, e = .returned v ∧ Inv w0 P w1 L (fun w => Piece v (four_ n) w ∧ F w)) := by
 refine (impl_four.calls (fun _ => True) (.slice none 0 0) [] n (four_ n) w w (Below.refl _ _) (Kd.R_nil _ _ _ _ _) (four_eq (by decide))).mono ?_
 rintro e w1 ⟨v, rfl, hR, hb, _⟩
 obtain ⟨A, c, rfl, hc, HI⟩ := h.rowKnow hb hR
 exact ⟨_, rfl, HI.weaken (fun _ h => ⟨⟨A, c, rfl, hc, h.1⟩, h.2⟩)⟩
end Inv
theorem pieces_lit {W : World} {T : TypeId} {vs : List Value} {ps : List (List Int)} (h : ∀ j (hj : j < ps.length), ∃ v, vs[j]? = some v ∧ Piece v ps[j] W) : Pieces (W.alloc (.cells vs.toArray T)) (some ⟨W.heap.size, 0, none⟩) ps := by
 intro j hj
 obtain ⟨v, hv, A, c, rfl, _, hC⟩ := h j hj
 refine ⟨_, A, c, rfl, ?_, Kd.C_alloc hC _⟩
 rw [add_plain, World.cell?_alloc_new]
 simpa using hv
theorem pieces3 {W : World} {T : TypeId} {v0 v1 v2 : Value} {a b c : List Int} (h0 : Piece v0 a W) (h1 : Piece v1 b W) (h2 : Piece v2 c W) : Pieces (W.alloc (.cells #[v0, v1, v2] T)) (some ⟨W.heap.size, 0, none⟩) [a, b, c] :=
 pieces_lit (vs := [v0, v1, v2]) (fun j hj => by
  match j, hj with
  | 0, _ => exact ⟨v0, rfl, h0⟩
  | 1, _ => exact ⟨v1, rfl, h1⟩
  | 2, _ => exact ⟨v2, rfl, h2⟩)
theorem pieces4 {W : World} {T : TypeId} {v0 v1 v2 v3 : Value} {a b c d : List Int} (h0 : Piece v0 a W) (h1 : Piece v1 b W) (h2 : Piece v2 c W) (h3 : Piece v3 d W) : Pieces (W.alloc (.cells #[v0, v1, v2, v3] T)) (some ⟨W.heap.size, 0, none⟩) [a, b, c, d] :=
 pieces_lit (vs := [v0, v1, v2, v3]) (fun j hj => by
  match j, hj with
  | 0, _ => exact ⟨v0, rfl, h0⟩
  | 1, _ => exact ⟨v1, rfl, h1⟩
  | 2, _ => exact ⟨v2, rfl, h2⟩
  | 3, _ => exact ⟨v3, rfl, h3⟩)
end Go.Proofs.Ytgookagndlfehaa.PT
end
section
/- impl.keccak in the printed form: pieces as a row of rows. -/
namespace Go.Proofs.Ytgookagndlfehaa.PT
open Go.RowKit Go.Proofs.YtgookagndlfehaaW.PrintWords Go.Proofs.YtgookagndlfehaaW.PrintLast Go.Proofs.YtgookagndlfehaaW.PrintMore
set_option linter.unusedVariables false
set_option linter.unusedSimpArgs false
theorem pieces_of {w : World} {A : Option Addr} {ps : List (List Int)} (h : (Kd.slice 5 (Kd.int .u8)).C w A ps.length ps) : Pieces w A ps := by
 intro j hj
 obtain ⟨ad, cs, e, _, hK, hc0⟩ := Kd.C_get h [] (j : Int) (by omega) (by omega)
 obtain ⟨B, c, rfl, hl, hC⟩ := hK
 rw [Int.toNat_natCast] at hC hc0 hl
 have e2 : ps.getD j [] = ps[j] := by simp [List.getD, hj]
 rw [e2] at hC hc0 hl
 have h1 := hc0 0 _ rfl
 have h2 : ad.add (j * (Kd.slice 5 (Kd.int .u8)).sz + 0) = ad.add j := by rw [show (Kd.slice 5 (Kd.int .u8)).sz = 1 from rfl, Nat.mul_one, Nat.add_zero]
 rw [h2] at h1
 exact ⟨ad, B, c, e, h1, hC⟩
def impl_keccak.f (l0 : List (List Int)) : Option ByteArray := if l0.flatten.length ≤ 4000000 then (if l0.length ≤ 1000000 then some (kec l0.flatten) else none) else none
theorem impl_keccak.calls (A0 : Option Addr) (c0 : Nat) (l0 : List (List Int)) (r : ByteArray) (w : World) (hr0 : Kd.C (Kd.slice 5 (Kd.int .u8)) w A0 l0.length l0) (hc0 : l0.length ≤ c0) (h : impl_keccak.f l0 = some r) :
  Calls Try.prog 56 #[.slice A0 l0.length c0] w fun e w' => e = .returned (.string r) ∧ Below w.heap.size w w' := by
 unfold impl_keccak.f at h
 by_cases c : l0.flatten.length ≤ 4000000
 ·
  rw [if_pos c] at h
  by_cases d : l0.length ≤ 1000000
  ·
   rw [if_pos d] at h
   obtain rfl := Option.some.inj h
   exact impl_keccak.walk A0 c0 l0 w (pieces_of hr0) c d
  ·
   rw [if_neg d] at h; cases h
 ·
  rw [if_neg c] at h; cases h
end Go.Proofs.Ytgookagndlfehaa.PT
end
/- A slice's address and room as one number: so a state's word can say that its slice stays where it is. -/
namespace Go.Proofs.Ytgookagndlfehaa.PT
def encL : List Nat → Nat
 | [] => 0
 | x :: r => 2 ^ x * (2 * encL r + 1)
theorem pow_odd {a b c d : Nat} (h : 2 ^ a * (2 * b + 1) = 2 ^ c * (2 * d + 1)) : a = c ∧ b = d := by
 induction a generalizing c with
 | zero =>
  cases c with
  | zero => simp only [Nat.pow_zero, Nat.one_mul] at h; exact ⟨rfl, (by omega)⟩
  | succ c => rw [Nat.pow_succ, Nat.mul_assoc, Nat.mul_left_comm, Nat.pow_zero, Nat.one_mul] at h; omega
 | succ a ih =>
  cases c with
  | zero => rw [Nat.pow_succ, Nat.mul_assoc, Nat.mul_left_comm, Nat.pow_zero, Nat.one_mul] at h; omega
  | succ c =>
   have h2 : 2 ^ a * (2 * b + 1) = 2 ^ c * (2 * d + 1) := by
    rw [Nat.pow_succ, Nat.pow_succ, Nat.mul_assoc, Nat.mul_assoc, Nat.mul_left_comm, Nat.mul_left_comm (2 ^ c)] at h
    omega
   obtain ⟨e1, e2⟩ := ih h2
   exact ⟨(by omega), e2⟩
theorem encL_inj : ∀ {a b : List Nat}, encL a = encL b → a = b
 | [], [], _ => rfl
 | [], y :: s, h => by
  have : 0 < 2 ^ y * (2 * encL s + 1) := Nat.mul_pos (Nat.two_pow_pos _) (by omega)
  simp only [encL] at h
  omega
 | x :: r, [], h => by
  have : 0 < 2 ^ x * (2 * encL r + 1) := Nat.mul_pos (Nat.two_pow_pos _) (by omega)
  simp only [encL] at h
  omega
 | x :: r, y :: s, h => by
  obtain ⟨e1, e2⟩ := pow_odd (show 2 ^ x * (2 * encL r + 1) = 2 ^ y * (2 * encL s + 1) from h)
  rw [e1, encL_inj e2]
def codeA (A : Option Addr) (c : Nat) : Nat :=
 match A with
 | none => encL [c]
 | some ⟨b, o, none⟩ => encL [c, b, o]
 | some ⟨b, o, some s⟩ => encL [c, b, o, s]
theorem codeA_inj {A B : Option Addr} {c d : Nat} (h : codeA A c = codeA B d) : A = B ∧ c = d := by
 rcases A with _ | ⟨b, o, _ | s⟩ <;> rcases B with _ | ⟨b', o', _ | s'⟩ <;> simp only [codeA] at h <;> have h2 := encL_inj h <;> simp_all
end Go.Proofs.Ytgookagndlfehaa.PT
section
namespace Go.Proofs.Ytgookagndlfehaa.PT
open Go.RowKit Go.Proofs.YtgookagndlfehaaW.PrintWords Go.Proofs.YtgookagndlfehaaW.PrintLast Go.Proofs.YtgookagndlfehaaW.PrintMore
attribute [local go_sem] max2_int min2_int max_two min_two max_three min_three max_four min_four   -- for this text's walks alone
set_option linter.unusedVariables false
set_option linter.unusedSimpArgs false
def IsS27 (w0 W : World) (g : Nat) (f0 : List (S34)) (f1 : Int) (f2 : ByteArray) (f3 : Int) : Prop := ∃ A0 c0, W.heap[g]? = some (.cells #[.slice A0 f0.length c0, .int .i64 f1, .string f2, .int .i64 f3] 27 (0, 0)) ∧ (w0.heap.size ≤ g ∧ w0.drawn = codeA A0 c0) ∧ Kd.C k34 w0 A0 f0.length f0
theorem IsS27.grown {w0 W : World} {g : Nat} {f0 : List (S34)} {f1 : Int} {f2 : ByteArray} {f3 : Int} {W1 : World} {row : Option Nat} (h : IsS27 w0 W g f0 f1 f2 f3) (hw : W.grownBy W1 row) (hne : some g ≠ row) : IsS27 w0 W1 g f0 f1 f2 f3 := by
 obtain ⟨A0, c0, hb, hg, hr0⟩ := h
 exact ⟨A0, c0, blk_grown hb hw hne, hg, hr0⟩
theorem IsS27.own_neN {w0 W : World} {g : Nat} {f0 : List (S34)} {f1 : Int} {f2 : ByteArray} {f3 : Int} {α : Type} {d : Kd α} {e : Nat} {base : Nat} {ok : Nat → Prop} {v : Value} {xs : List α} (h : IsS27 w0 W g f0 f1 f2 f3) (ho : Kd.N d e W base ok v xs) (ht : e ≠ 27) : some g ≠ v.ownBlock := by
 obtain ⟨A0, c0, hb, hg, hr0⟩ := h
 exact Kd.N_ne ho hb ht
theorem IsS27.fresh {w0 W : World} {g : Nat} {f0 : List (S34)} {f1 : Int} {f2 : ByteArray} {f3 : Int} (h : IsS27 w0 W g f0 f1 f2 f3) : ∀ k, W.heap.size ≤ k → k ≠ g := by
 obtain ⟨A0, c0, hb, hg, hr0⟩ := h
 exact Kd.freshB hb
theorem IsS27.kept {w0 W : World} {g : Nat} {f0 : List (S34)} {f1 : Int} {f2 : ByteArray} {f3 : Int} {W1 : World} {S : Nat → Prop} (h : IsS27 w0 W g f0 f1 f2 f3) (hk : Kept W W1 S) (hne : ¬ S g) : IsS27 w0 W1 g f0 f1 f2 f3 := by
 obtain ⟨A0, c0, hb, hg, hr0⟩ := h
 exact ⟨A0, c0, blk_kept hb hk hne, hg, hr0⟩
theorem IsS27.below {w0 W : World} {g : Nat} {f0 : List (S34)} {f1 : Int} {f2 : ByteArray} {f3 : Int} {W1 : World} (h : IsS27 w0 W g f0 f1 f2 f3) (hw : Below W.heap.size W W1) : IsS27 w0 W1 g f0 f1 f2 f3 := h.grown (grown_of_below hw none) (by simp)
theorem IsS27.alloc {w0 W : World} {g : Nat} {f0 : List (S34)} {f1 : Int} {f2 : ByteArray} {f3 : Int} (h : IsS27 w0 W g f0 f1 f2 f3) (o : Obj) : IsS27 w0 (W.alloc o) g f0 f1 f2 f3 := h.below (below_alloc (Below.refl _ _) o)
theorem IsS27.drewN {w0 W : World} {g : Nat} {f0 : List (S34)} {f1 : Int} {f2 : ByteArray} {f3 : Int} (h : IsS27 w0 W g f0 f1 f2 f3) (m : Nat) : IsS27 w0 (W.drewN m) g f0 f1 f2 f3 := h
theorem IsS27.drew {w0 W : World} {g : Nat} {f0 : List (S34)} {f1 : Int} {f2 : ByteArray} {f3 : Int} (h : IsS27 w0 W g f0 f1 f2 f3) : IsS27 w0 W.drew g f0 f1 f2 f3 := h
theorem IsS27.at_ {w0 W : World} {g : Nat} {f0 : List (S34)} {f1 : Int} {f2 : ByteArray} {f3 : Int} {w' : World} {m : Nat} (hq : W.drewN m = w') (h : IsS27 w0 W g f0 f1 f2 f3) : IsS27 w0 w' g f0 f1 f2 f3 := by subst hq; exact IsS27.drewN h m
theorem IsS27.apart {w0 W : World} {g : Nat} {f0 : List (S34)} {f1 : Int} {f2 : ByteArray} {f3 : Int} {α : Type} {d : Kd α} {e : Nat} {base : Nat} {ok : Nat → Prop} {v : Value} {xs : List α} (h : IsS27 w0 W g f0 f1 f2 f3) (ho : d.R e W base ok v xs) (ht : ∀ q, q ∈ e :: d.E → q ≠ 27) : d.R e W base (fun k => ok k ∧ k ≠ g) v xs := by
 obtain ⟨A0, c0, hb, hg, hr0⟩ := h
 exact Kd.R_types ho hb ht
theorem IsS27.own_ne {w0 W : World} {g : Nat} {f0 : List (S34)} {f1 : Int} {f2 : ByteArray} {f3 : Int} {α : Type} {d : Kd α} {e : Nat} {base : Nat} {ok : Nat → Prop} {v : Value} {xs : List α} (h : IsS27 w0 W g f0 f1 f2 f3) (ho : d.R e W base ok v xs) (ht : e ≠ 27) : some g ≠ v.ownBlock := by
 obtain ⟨A0, c0, hb, hg, hr0⟩ := h
 exact Kd.R_ne ho hb ht
theorem IsS27.apartQ {w0 W : World} {g : Nat} {f0 : List (S34)} {f1 : Int} {f2 : ByteArray} {f3 : Int} {α : Type} {d : Kd α} {e : Nat} {base : Nat} {ok : Nat → Prop} {v : Value} {xs : List α} (h : IsS27 w0 W g f0 f1 f2 f3) (ho : d.Q e W base ok v xs) (ht : ∀ q, q ∈ e :: d.E → q ≠ 27) : d.Q e W base (fun k => ok k ∧ k ≠ g) v xs := by
 obtain ⟨A0, c0, hb, hg, hr0⟩ := h
 exact Kd.Q_types ho hb ht
theorem IsS27.own_neQ {w0 W : World} {g : Nat} {f0 : List (S34)} {f1 : Int} {f2 : ByteArray} {f3 : Int} {α : Type} {d : Kd α} {e : Nat} {base : Nat} {ok : Nat → Prop} {v : Value} {xs : List α} (h : IsS27 w0 W g f0 f1 f2 f3) (ho : d.Q e W base ok v xs) (ht : e ≠ 27) : some g ≠ v.ownBlock := by
 obtain ⟨A0, c0, hb, hg, hr0⟩ := h
 exact Kd.Q_ne ho hb ht
theorem IsS27.apartS {w0 W : World} {g : Nat} {f0 : List (S34)} {f1 : Int} {f2 : ByteArray} {f3 : Int} {α : Type} {d : Kd α} {e : Nat} {base : Nat} {ok : Nat → Prop} {v : Value} {xs : List α} (h : IsS27 w0 W g f0 f1 f2 f3) (ho : d.S e W base ok v xs) (ht : ∀ q, q ∈ e :: d.E → q ≠ 27) : d.S e W base (fun k => ok k ∧ k ≠ g) v xs := by
 obtain ⟨A0, c0, hb, hg, hr0⟩ := h
 exact Kd.S_types ho hb ht
theorem IsS27.own_neS {w0 W : World} {g : Nat} {f0 : List (S34)} {f1 : Int} {f2 : ByteArray} {f3 : Int} {α : Type} {d : Kd α} {e : Nat} {base : Nat} {ok : Nat → Prop} {v : Value} {xs : List α} (h : IsS27 w0 W g f0 f1 f2 f3) (ho : d.S e W base ok v xs) (ht : e ≠ 27) : some g ≠ v.ownBlock := by
 obtain ⟨A0, c0, hb, hg, hr0⟩ := h
 exact Kd.S_ne ho hb ht
theorem IsS27.lt {w0 W : World} {g : Nat} {f0 : List (S34)} {f1 : Int} {f2 : ByteArray} {f3 : Int} (h : IsS27 w0 W g f0 f1 f2 f3) : g < W.heap.size := by
 obtain ⟨A0, c0, hb, hg, hr0⟩ := h
 exact blk_lt hb
theorem IsS27.ge {w0 W : World} {g : Nat} {f0 : List (S34)} {f1 : Int} {f2 : ByteArray} {f3 : Int} (h : IsS27 w0 W g f0 f1 f2 f3) : w0.heap.size ≤ g := by
 obtain ⟨A0, c0, hb, hg, hr0⟩ := h
 exact hg.1
theorem IsS27.ne_blk {w0 W : World} {g : Nat} {f0 : List (S34)} {f1 : Int} {f2 : ByteArray} {f3 : Int} {a : Nat} {cs : Array Value} {t : TypeId} {fr : Nat × Nat} (h : IsS27 w0 W g f0 f1 f2 f3) (hb2 : W.heap[a]? = some (.cells cs t fr)) (ht : t ≠ 27) : g ≠ a := by
 obtain ⟨A0, c0, hb, hg, hr0⟩ := h
 rintro rfl
 rw [hb] at hb2
 injection hb2 with hb2
 injection hb2 with _ ht2
 exact ht ht2.symm
theorem IsS27.far {w0 W : World} {g : Nat} {f0 : List (S34)} {f1 : Int} {f2 : ByteArray} {f3 : Int} {p : Addr} (h : IsS27 w0 W g f0 f1 f2 f3) (hne : g ≠ p.block) (u : Value) : IsS27 w0 (W.setCell p u) g f0 f1 f2 f3 := by
 obtain ⟨A0, c0, hb, hg, hr0⟩ := h
 exact ⟨A0, c0, blk_far hb hne u, hg, hr0⟩
theorem cellS27_0 {W : World} {g : Nat} {A0 : Option Addr} {c0 : Nat} {f0 : List (S34)} {f1 : Int} {f2 : ByteArray} {f3 : Int} (h : W.heap[g]? = some (.cells #[.slice A0 f0.length c0, .int .i64 f1, .string f2, .int .i64 f3] 27 (0, 0))) : W.cell? ⟨g, 0, none⟩ = some (.slice A0 f0.length c0) := (blk_cell h 0).trans rfl
theorem cellS27_1 {W : World} {g : Nat} {A0 : Option Addr} {c0 : Nat} {f0 : List (S34)} {f1 : Int} {f2 : ByteArray} {f3 : Int} (h : W.heap[g]? = some (.cells #[.slice A0 f0.length c0, .int .i64 f1, .string f2, .int .i64 f3] 27 (0, 0))) : W.cell? ⟨g, 1, none⟩ = some (.int .i64 f1) := (blk_cell h 1).trans rfl
theorem IsS27.set_1 {w0 W : World} {g : Nat} {f0 : List (S34)} {f1 : Int} {f2 : ByteArray} {f3 : Int} (h : IsS27 w0 W g f0 f1 f2 f3) (x : Int) : IsS27 w0 (W.setCell ⟨g, 1, none⟩ (.int .i64 x)) g f0 x f2 f3 := by
 obtain ⟨A0, c0, hb, hg, hr0⟩ := h
 exact ⟨A0, c0, (by simpa using blk_set hb 1 (.int .i64 x)), hg, hr0⟩
theorem cellS27_2 {W : World} {g : Nat} {A0 : Option Addr} {c0 : Nat} {f0 : List (S34)} {f1 : Int} {f2 : ByteArray} {f3 : Int} (h : W.heap[g]? = some (.cells #[.slice A0 f0.length c0, .int .i64 f1, .string f2, .int .i64 f3] 27 (0, 0))) : W.cell? ⟨g, 2, none⟩ = some (.string f2) := (blk_cell h 2).trans rfl
theorem IsS27.set_2 {w0 W : World} {g : Nat} {f0 : List (S34)} {f1 : Int} {f2 : ByteArray} {f3 : Int} (h : IsS27 w0 W g f0 f1 f2 f3) (x : ByteArray) : IsS27 w0 (W.setCell ⟨g, 2, none⟩ (.string x)) g f0 f1 x f3 := by
 obtain ⟨A0, c0, hb, hg, hr0⟩ := h
 exact ⟨A0, c0, (by simpa using blk_set hb 2 (.string x)), hg, hr0⟩
theorem cellS27_3 {W : World} {g : Nat} {A0 : Option Addr} {c0 : Nat} {f0 : List (S34)} {f1 : Int} {f2 : ByteArray} {f3 : Int} (h : W.heap[g]? = some (.cells #[.slice A0 f0.length c0, .int .i64 f1, .string f2, .int .i64 f3] 27 (0, 0))) : W.cell? ⟨g, 3, none⟩ = some (.int .i64 f3) := (blk_cell h 3).trans rfl
theorem IsS27.set_3 {w0 W : World} {g : Nat} {f0 : List (S34)} {f1 : Int} {f2 : ByteArray} {f3 : Int} (h : IsS27 w0 W g f0 f1 f2 f3) (x : Int) : IsS27 w0 (W.setCell ⟨g, 3, none⟩ (.int .i64 x)) g f0 f1 f2 x := by
 obtain ⟨A0, c0, hb, hg, hr0⟩ := h
 exact ⟨A0, c0, (by simpa using blk_set hb 3 (.int .i64 x)), hg, hr0⟩
theorem IsS27.new (w0 W : World) (A0 : Option Addr) (c0 : Nat) (f0 : List (S34)) (f1 : Int) (f2 : ByteArray) (f3 : Int) (hB : Below w0.heap.size w0 W) (hr0 : Kd.C k34 w0 A0 f0.length f0) (hd0 : w0.drawn = codeA A0 c0) : IsS27 w0 (W.alloc (.cells #[.slice A0 f0.length c0, .int .i64 f1, .string f2, .int .i64 f3] 27)) W.heap.size f0 f1 f2 f3 := ⟨A0, c0, by simpa using heap_alloc_new W _, ⟨hB.size, hd0⟩, hr0⟩
def impl_Source_absorb.f (s0_0 : List (S34)) (s0_1 : Int) (s0_2 : ByteArray) (s0_3 : Int) (l1 : List Int) : Option (Int × ByteArray × Int) := if s0_2.size ≤ 1000000 then (if l1.length ≤ 1000000 then some (s0_1, kec ([nums_ s0_2, [97, 98, 115, 111, 114, 98], four_ (l1.length : Int), l1].flatten), 0) else none) else none
set_option maxHeartbeats 8000000 in
set_option maxRecDepth 100000 in
theorem impl_Source_absorb.calls0 (g : Nat) (s0_0 : List (S34)) (s0_1 : Int) (s0_2 : ByteArray) (s0_3 : Int) (A1 : Option Addr) (c1 : Nat) (l1 : List Int) (r1 : Int) (r2 : ByteArray) (r3 : Int) (w0 w : World) (hI : IsS27 w0 w g s0_0 s0_1 s0_2 s0_3) (hB : Below w0.heap.size w0 w) (hr1 : ∀ W_, KeepBut w W_ g none → Kd.C (Kd.int .u8) W_ A1 l1.length l1) (hc1 : l1.length ≤ c1) (h : impl_Source_absorb.f s0_0 s0_1 s0_2 s0_3 l1 = some (r1, r2, r3)) :
  Calls Try.prog 49 #[.pointer (some ⟨g, 0, none⟩), .slice A1 l1.length c1] w fun e w' => e = .returned (.tuple #[]) ∧ IsS27 w0 w' g s0_0 r1 r2 r3 ∧ Below w0.heap.size w0 w' ∧ KeepBut w w' g none := by
 unfold impl_Source_absorb.f at h
 by_cases cs : s0_2.size ≤ 1000000
 ·
  rw [if_pos cs] at h
  by_cases cl : l1.length ≤ 1000000
  ·
   rw [if_pos cl] at h
   simp only [Option.some.injEq, Prod.mk.injEq] at h
   obtain ⟨rfl, hk_, rfl⟩ := h
   have HKE := am_ hk_
   clear hk_
   have HST := am_ (show s0_2.size ≤ 2000000 by omega)
   have HL1 := am_ cl
   have HC1 := am_ hc1
   have HB := am_ hB
   have HGE := am_ (IsS27.ge hI)
   obtain ⟨A0, c0, hblk, hge, hr0⟩ := hI
   have HGQ := am_ hge
   have HR0 := am_ hr0
   have HI := am_ (Inv.startP w hblk (fun w2 => Kd.C (Kd.int .u8) w2 A1 l1.length l1) (fun w' ha => hr1 w' ha.keep))
   have hs2 : w.cell? ⟨g, 2, none⟩ = some (.string s0_2) := (blk_cell hblk 2).trans rfl
   clear cs cl hc1 hB hr1 hblk hge hr0
   go_enter Try.func49, Try.ntmps49
   try go_wp2
   refine start_ (n := 21) (S := fun w' => w'.cell? ⟨g, 2, none⟩ = some (.string s0_2)) (ds := [17, 20]) #[false, false, false, false, false, false, false, false, false, false, false, false, false, false, false, false, false, false, false, false, false] (by kernel_rfl) rfl rfl ((blk_cell ((HI.out).get 0 rfl) 2).trans rfl) (fun hHeld => ?_)
   refine pure_ (i := 0) (N := some 4) (v := ?_) (a' := ?_) #[true, false, false, false, false, false, false, false, false, false, false, false, false, false, false, false, false, false, false, false, false] rfl rfl (by kernel_rfl) (fun _ _ _ h => h) (Or.inl ⟨(by rfl), ?_⟩) ?_ ?_
   rotate_left
   ·
    intro w'
    go_simp
    with_reducible rfl
   rotate_left
   ·
    exact ap_
   refine pure_ (i := 1) (N := some 5) (v := ?_) (a' := ?_) #[true, true, false, false, false, false, false, false, false, false, false, false, false, false, false, false, false, false, false, false, false] rfl rfl (by kernel_rfl) (fun _ _ _ h => h) (Or.inl ⟨(by rfl), ?_⟩) ?_ ?_
   rotate_left
   ·
    intro w'
    go_simp
    with_reducible rfl
   rotate_left
   ·
    exact ap_
   refine pure_ (i := 2) (N := some 6) (v := ?_) (a' := ?_) #[true, true, true, false, false, false, false, false, false, false, false, false, false, false, false, false, false, false, false, false, false] rfl rfl (by kernel_rfl) (fun _ _ _ h => h) (Or.inl ⟨(by rfl), ?_⟩) ?_ ?_
   rotate_left
   ·
    intro w'
    go_simp
    with_reducible rfl
   rotate_left
   ·
    exact ap_
   refine pure_ (i := 3) (N := some 7) (v := ?_) (a' := ?_) #[true, true, true, true, false, false, false, false, false, false, false, false, false, false, false, false, false, false, false, false, false] rfl rfl (by kernel_rfl) (fun _ _ _ h => h) (Or.inl ⟨(by rfl), ?_⟩) ?_ ?_
   rotate_left
   ·
    intro w'
    go_simp
    with_reducible rfl
   rotate_left
   ·
    exact ap_
   refine pure_ (i := 4) (N := some 8) (v := ?_) (a' := ?_) #[true, true, true, true, true, false, false, false, false, false, false, false, false, false, false, false, false, false, false, false, false] rfl rfl (by kernel_rfl) (fun _ _ _ h => h) (Or.inl ⟨(by rfl), ?_⟩) ?_ ?_
   rotate_left
   ·
    intro w'
    go_simp
    with_reducible rfl
   rotate_left
   ·
    exact ap_
   refine take_ (i := 5) (N := some 9) (v := ?_) (a' := ?_) #[true, true, true, true, true, true, false, false, false, false, false, false, false, false, false, false, false, false, false, false, false] rfl rfl (by kernel_rfl) (fun _ _ _ h => h) (Or.inl ⟨(by rfl), ?_⟩) hHeld ?_ ?_
   rotate_left
   ·
    rintro w' s0
    go_simp
    with_reducible rfl
   rotate_left
   ·
    exact ap_
   refine pure_ (i := 9) (N := some 13) (v := ?_) (a' := ?_) #[true, true, true, true, true, true, false, false, false, true, false, false, false, false, false, false, false, false, false, false, false] rfl rfl (by kernel_rfl) (fun _ _ _ h => h) (Or.inl ⟨(by rfl), ?_⟩) ?_ ?_
   rotate_left
   ·
    intro w'
    go_simp
    with_reducible rfl
   rotate_left
   ·
    exact ap_
   refine pure_ (i := 10) (N := some 14) (v := ?_) (a' := ?_) #[true, true, true, true, true, true, false, false, false, true, true, false, false, false, false, false, false, false, false, false, false] rfl rfl (by kernel_rfl) (fun _ _ _ h => h) (Or.inl ⟨(by rfl), ?_⟩) ?_ ?_
   rotate_left
   ·
    intro w'
    go_simp
    with_reducible rfl
   rotate_left
   ·
    exact ap_
   refine pure_ (i := 12) (N := some 16) (v := ?_) (a' := ?_) #[true, true, true, true, true, true, false, false, false, true, true, false, true, false, false, false, false, false, false, false, false] rfl rfl (by kernel_rfl) (fun _ _ _ h => h) (Or.inl ⟨(by rfl), ?_⟩) ?_ ?_
   rotate_left
   ·
    intro w'
    go_simp
    with_reducible rfl
   rotate_left
   ·
    exact ap_
   have HI_ := am_ (HI.out.drew); clear HI; have HI := HI_; clear HI_
   generalize w.drew = wd0 at HI hHeld ⊢
   refine join_ (σ := Value × Value × Value × Value) 8 #[true, true, true, true, true, true, true, true, true, true, true, true, true, false, false, false, false, false, false, false, false] (fun s => [(10, s.1), (11, s.2.1), (12, s.2.2.1), (15, s.2.2.2)]) (fun s w' => Inv w (fun k => k = g) w' [blk g 27 #[.slice A0 s0_0.length c0, .int .i64 s0_1, .string s0_2, .int .i64 s0_3]] (fun w2 => Piece s.1 (nums_ s0_2) w2 ∧ Piece s.2.2.1 [97, 98, 115, 111, 114, 98] w2 ∧ Piece s.2.2.2 (four_ ((l1.length : Int))) w2 ∧ (fun w2 => Kd.C (Kd.int .u8) w2 A1 l1.length l1) w2)) ?_ ?_
   rotate_left
   ·
    intro hJ
    refine three_ (i := 6) (j := 7) (k := 11) (Ni := some 10) (Nj := some 11) (Nk := some 15) #[true, true, true, true, true, true, true, false, false, true, true, false, true, false, false, false, false, false, false, false, false] #[true, true, true, true, true, true, false, true, false, true, true, false, true, false, false, false, false, false, false, false, false] #[true, true, true, true, true, true, false, false, false, true, true, true, true, false, false, false, false, false, false, false, false] rfl rfl rfl rfl rfl rfl (by kernel_rfl) (by decide) (by decide) (by decide) (fun K hK => ?_) (fun K hK => ?_) (fun K hK => ?_)
    ·
     obtain ⟨vconv, wv1, hcv, HI_⟩ := HI.out.conv_ev HST.out
     refine value_ (by rfl) rfl (v := vconv) (w1 := wv1) qz18_ ?_
     clear HI hcv; have HI := am_ HI_; clear HI_
     refine hK.out _ _ ((blk_cell ((HI.out).get 0 rfl) 2).trans rfl) (fun hHeld => ?_)
     clear hK K
     refine norm_ (a' := ?_) ?_ ?_
     rotate_left
     ·
      show Act.put _ (some 10) _ = _
      exact ap_
     refine two_ (i := 7) (j := 11) (Ni := some 11) (Nj := some 15) #[true, true, true, true, true, true, true, true, false, true, true, false, true, false, false, false, false, false, false, false, false] #[true, true, true, true, true, true, true, false, false, true, true, true, true, false, false, false, false, false, false, false, false] rfl rfl rfl rfl (by kernel_rfl) (by decide) (by decide) (fun K hK => ?_) (fun K hK => ?_)
     ·
      have HI_ := am_ (HI.out.lit_ev #[.int .u8 97, .int .u8 98, .int .u8 115, .int .u8 111, .int .u8 114, .int .u8 98] 5); clear HI; have HI := HI_; clear HI_
      refine value_ (by rfl) rfl (v := .slice (some ⟨wv1.heap.size, 0, none⟩) 6 6) (w1 := wv1.alloc (.cells #[.int .u8 97, .int .u8 98, .int .u8 115, .int .u8 111, .int .u8 114, .int .u8 98] 5)) qz18_ ?_
      generalize wv1.alloc (.cells #[.int .u8 97, .int .u8 98, .int .u8 115, .int .u8 111, .int .u8 114, .int .u8 98] 5) = wv2 at HI ⊢
      generalize wv1.heap.size = gl at HI ⊢
      refine hK.out _ _ ((blk_cell ((HI.out).get 1 rfl) 2).trans rfl) (fun hHeld => ?_)
      clear hK K
      refine norm_ (a' := ?_) ?_ ?_
      rotate_left
      ·
       show Act.put _ (some 11) _ = _
       exact ap_
      refine two_ (i := 8) (j := 11) (Ni := some 12) (Nj := some 15) #[true, true, true, true, true, true, true, true, true, true, true, false, true, false, false, false, false, false, false, false, false] #[true, true, true, true, true, true, true, true, false, true, true, true, true, false, false, false, false, false, false, false, false] rfl rfl rfl rfl (by kernel_rfl) (by decide) (by decide) (fun K hK => ?_) (fun K hK => ?_)
      ·
       obtain ⟨wv3, hcv, HI_⟩ := HI.out.mark_ev (xs := [97, 98, 115, 111, 114, 98]) (by decide)
       replace hcv : (convert 22 22 (.slice (some ⟨gl, 0, none⟩) 6 6)).run Try.prog wv2 = .ok (.slice (some ⟨gl, 0, none⟩) 6 6) wv3 := hcv
       refine value_ (by rfl) rfl (v := .slice (some ⟨gl, 0, none⟩) 6 6) (w1 := wv3) qz18_ ?_
       clear HI hcv; have HI := am_ HI_; clear HI_
       refine hK.out _ _ ((blk_cell ((HI.out).get 0 rfl) 2).trans rfl) (fun hHeld => ?_)
       clear hK K
       refine norm_ (a' := ?_) ?_ ?_
       rotate_left
       ·
        show Act.put _ (some 12) _ = _
        exact ap_
       refine one_ (i := 11) (N := some 15) #[true, true, true, true, true, true, true, true, true, true, true, true, true, false, false, false, false, false, false, false, false] rfl rfl (by kernel_rfl) (by decide) (fun K hK => ?_)
       refine goes_ Try.func88 (by kernel_rfl) rfl #[.slice none 0 0, .int .i64 l1.length] (by rfl) rfl rfl qz13_ ?_
       refine (HI.out.four_ev ((l1.length : Int))).mono ?_
       rintro e wv4 ⟨vfour, rfl, HI_⟩
       refine ⟨_, rfl, ?_⟩
       clear HI; have HI := am_ HI_; clear HI_
       refine hK.out _ _ ((blk_cell ((HI.out).get 0 rfl) 2).trans rfl) (fun hHeld => ?_)
       clear hK K
       refine norm_ (a' := ?_) ?_ ?_
       rotate_left
       ·
        show Act.put _ (some 15) _ = _
        exact ap_
       refine norm_ ?_ (hJ (vconv, .slice (some ⟨gl, 0, none⟩) 6 6, .slice (some ⟨gl, 0, none⟩) 6 6, vfour) wv4 (HI.out.weaken (fun _ h => ?_)))
       ·
        simp only [putAll]; simp only [Act.put, List.setIfInBounds_toArray, List.set_cons_zero, List.set_cons_succ, i64_w, i32_w]
        try rfl
       ·
        refine ⟨?_, ?_, ?_, ?_⟩ <;> first | exact h.1 | exact h.2.1 | exact h.2.2.1 | exact h.2.2.2
      ·
       refine goes_ Try.func88 (by kernel_rfl) rfl #[.slice none 0 0, .int .i64 l1.length] (by rfl) rfl rfl qz13_ ?_
       refine (HI.out.four_ev ((l1.length : Int))).mono ?_
       rintro e wv3 ⟨vfour, rfl, HI_⟩
       refine ⟨_, rfl, ?_⟩
       clear HI; have HI := am_ HI_; clear HI_
       refine hK.out _ _ ((blk_cell ((HI.out).get 1 rfl) 2).trans rfl) (fun hHeld => ?_)
       clear hK K
       refine norm_ (a' := ?_) ?_ ?_
       rotate_left
       ·
        show Act.put _ (some 15) _ = _
        exact ap_
       refine one_ (i := 8) (N := some 12) #[true, true, true, true, true, true, true, true, true, true, true, true, true, false, false, false, false, false, false, false, false] rfl rfl (by kernel_rfl) (by decide) (fun K hK => ?_)
       obtain ⟨wv4, hcv, HI_⟩ := HI.out.mark_ev (xs := [97, 98, 115, 111, 114, 98]) (by decide)
       replace hcv : (convert 22 22 (.slice (some ⟨gl, 0, none⟩) 6 6)).run Try.prog wv3 = .ok (.slice (some ⟨gl, 0, none⟩) 6 6) wv4 := hcv
       refine value_ (by rfl) rfl (v := .slice (some ⟨gl, 0, none⟩) 6 6) (w1 := wv4) qz18_ ?_
       clear HI hcv; have HI := am_ HI_; clear HI_
       refine hK.out _ _ ((blk_cell ((HI.out).get 0 rfl) 2).trans rfl) (fun hHeld => ?_)
       clear hK K
       refine norm_ (a' := ?_) ?_ ?_
       rotate_left
       ·
        show Act.put _ (some 12) _ = _
        exact ap_
       refine norm_ ?_ (hJ (vconv, .slice (some ⟨gl, 0, none⟩) 6 6, .slice (some ⟨gl, 0, none⟩) 6 6, vfour) wv4 (HI.out.weaken (fun _ h => ?_)))
       ·
        simp only [putAll]; simp only [Act.put, List.setIfInBounds_toArray, List.set_cons_zero, List.set_cons_succ, i64_w, i32_w]
        try rfl
       ·
        refine ⟨?_, ?_, ?_, ?_⟩ <;> first | exact h.1 | exact h.2.1 | exact h.2.2.1 | exact h.2.2.2
     ·
      refine goes_ Try.func88 (by kernel_rfl) rfl #[.slice none 0 0, .int .i64 l1.length] (by rfl) rfl rfl qz13_ ?_
      refine (HI.out.four_ev ((l1.length : Int))).mono ?_
      rintro e wv2 ⟨vfour, rfl, HI_⟩
      refine ⟨_, rfl, ?_⟩
      clear HI; have HI := am_ HI_; clear HI_
      refine hK.out _ _ ((blk_cell ((HI.out).get 0 rfl) 2).trans rfl) (fun hHeld => ?_)
      clear hK K
      refine norm_ (a' := ?_) ?_ ?_
      rotate_left
      ·
       show Act.put _ (some 15) _ = _
       exact ap_
      refine one_ (i := 7) (N := some 11) #[true, true, true, true, true, true, true, true, false, true, true, true, true, false, false, false, false, false, false, false, false] rfl rfl (by kernel_rfl) (by decide) (fun K hK => ?_)
      have HI_ := am_ (HI.out.lit_ev #[.int .u8 97, .int .u8 98, .int .u8 115, .int .u8 111, .int .u8 114, .int .u8 98] 5); clear HI; have HI := HI_; clear HI_
      refine value_ (by rfl) rfl (v := .slice (some ⟨wv2.heap.size, 0, none⟩) 6 6) (w1 := wv2.alloc (.cells #[.int .u8 97, .int .u8 98, .int .u8 115, .int .u8 111, .int .u8 114, .int .u8 98] 5)) qz18_ ?_
      generalize wv2.alloc (.cells #[.int .u8 97, .int .u8 98, .int .u8 115, .int .u8 111, .int .u8 114, .int .u8 98] 5) = wv3 at HI ⊢
      generalize wv2.heap.size = gl at HI ⊢
      refine hK.out _ _ ((blk_cell ((HI.out).get 1 rfl) 2).trans rfl) (fun hHeld => ?_)
      clear hK K
      refine norm_ (a' := ?_) ?_ ?_
      rotate_left
      ·
       show Act.put _ (some 11) _ = _
       exact ap_
      refine one_ (i := 8) (N := some 12) #[true, true, true, true, true, true, true, true, true, true, true, true, true, false, false, false, false, false, false, false, false] rfl rfl (by kernel_rfl) (by decide) (fun K hK => ?_)
      obtain ⟨wv4, hcv, HI_⟩ := HI.out.mark_ev (xs := [97, 98, 115, 111, 114, 98]) (by decide)
      replace hcv : (convert 22 22 (.slice (some ⟨gl, 0, none⟩) 6 6)).run Try.prog wv3 = .ok (.slice (some ⟨gl, 0, none⟩) 6 6) wv4 := hcv
      refine value_ (by rfl) rfl (v := .slice (some ⟨gl, 0, none⟩) 6 6) (w1 := wv4) qz18_ ?_
      clear HI hcv; have HI := am_ HI_; clear HI_
      refine hK.out _ _ ((blk_cell ((HI.out).get 0 rfl) 2).trans rfl) (fun hHeld => ?_)
      clear hK K
      refine norm_ (a' := ?_) ?_ ?_
      rotate_left
      ·
       show Act.put _ (some 12) _ = _
       exact ap_
      refine norm_ ?_ (hJ (vconv, .slice (some ⟨gl, 0, none⟩) 6 6, .slice (some ⟨gl, 0, none⟩) 6 6, vfour) wv4 (HI.out.weaken (fun _ h => ?_)))
      ·
       simp only [putAll]; simp only [Act.put, List.setIfInBounds_toArray, List.set_cons_zero, List.set_cons_succ, i64_w, i32_w]
       try rfl
      ·
       refine ⟨?_, ?_, ?_, ?_⟩ <;> first | exact h.1 | exact h.2.1 | exact h.2.2.1 | exact h.2.2.2
    ·
     have HI_ := am_ (HI.out.lit_ev #[.int .u8 97, .int .u8 98, .int .u8 115, .int .u8 111, .int .u8 114, .int .u8 98] 5); clear HI; have HI := HI_; clear HI_
     refine value_ (by rfl) rfl (v := .slice (some ⟨wd0.heap.size, 0, none⟩) 6 6) (w1 := wd0.alloc (.cells #[.int .u8 97, .int .u8 98, .int .u8 115, .int .u8 111, .int .u8 114, .int .u8 98] 5)) qz18_ ?_
     generalize wd0.alloc (.cells #[.int .u8 97, .int .u8 98, .int .u8 115, .int .u8 111, .int .u8 114, .int .u8 98] 5) = wv1 at HI ⊢
     generalize wd0.heap.size = gl at HI ⊢
     refine hK.out _ _ ((blk_cell ((HI.out).get 1 rfl) 2).trans rfl) (fun hHeld => ?_)
     clear hK K
     refine norm_ (a' := ?_) ?_ ?_
     rotate_left
     ·
      show Act.put _ (some 11) _ = _
      exact ap_
     refine three_ (i := 6) (j := 8) (k := 11) (Ni := some 10) (Nj := some 12) (Nk := some 15) #[true, true, true, true, true, true, true, true, false, true, true, false, true, false, false, false, false, false, false, false, false] #[true, true, true, true, true, true, false, true, true, true, true, false, true, false, false, false, false, false, false, false, false] #[true, true, true, true, true, true, false, true, false, true, true, true, true, false, false, false, false, false, false, false, false] rfl rfl rfl rfl rfl rfl (by kernel_rfl) (by decide) (by decide) (by decide) (fun K hK => ?_) (fun K hK => ?_) (fun K hK => ?_)
     ·
      obtain ⟨vconv, wv2, hcv, HI_⟩ := HI.out.conv_ev HST.out
      refine value_ (by rfl) rfl (v := vconv) (w1 := wv2) qz18_ ?_
      clear HI hcv; have HI := am_ HI_; clear HI_
      refine hK.out _ _ ((blk_cell ((HI.out).get 1 rfl) 2).trans rfl) (fun hHeld => ?_)
      clear hK K
      refine norm_ (a' := ?_) ?_ ?_
      rotate_left
      ·
       show Act.put _ (some 10) _ = _
       exact ap_
      refine two_ (i := 8) (j := 11) (Ni := some 12) (Nj := some 15) #[true, true, true, true, true, true, true, true, true, true, true, false, true, false, false, false, false, false, false, false, false] #[true, true, true, true, true, true, true, true, false, true, true, true, true, false, false, false, false, false, false, false, false] rfl rfl rfl rfl (by kernel_rfl) (by decide) (by decide) (fun K hK => ?_) (fun K hK => ?_)
      ·
       obtain ⟨wv3, hcv, HI_⟩ := HI.out.mark_ev (xs := [97, 98, 115, 111, 114, 98]) (by decide)
       replace hcv : (convert 22 22 (.slice (some ⟨gl, 0, none⟩) 6 6)).run Try.prog wv2 = .ok (.slice (some ⟨gl, 0, none⟩) 6 6) wv3 := hcv
       refine value_ (by rfl) rfl (v := .slice (some ⟨gl, 0, none⟩) 6 6) (w1 := wv3) qz18_ ?_
       clear HI hcv; have HI := am_ HI_; clear HI_
       refine hK.out _ _ ((blk_cell ((HI.out).get 0 rfl) 2).trans rfl) (fun hHeld => ?_)
       clear hK K
       refine norm_ (a' := ?_) ?_ ?_
       rotate_left
       ·
        show Act.put _ (some 12) _ = _
        exact ap_
       refine one_ (i := 11) (N := some 15) #[true, true, true, true, true, true, true, true, true, true, true, true, true, false, false, false, false, false, false, false, false] rfl rfl (by kernel_rfl) (by decide) (fun K hK => ?_)
       refine goes_ Try.func88 (by kernel_rfl) rfl #[.slice none 0 0, .int .i64 l1.length] (by rfl) rfl rfl qz13_ ?_
       refine (HI.out.four_ev ((l1.length : Int))).mono ?_
       rintro e wv4 ⟨vfour, rfl, HI_⟩
       refine ⟨_, rfl, ?_⟩
       clear HI; have HI := am_ HI_; clear HI_
       refine hK.out _ _ ((blk_cell ((HI.out).get 0 rfl) 2).trans rfl) (fun hHeld => ?_)
       clear hK K
       refine norm_ (a' := ?_) ?_ ?_
       rotate_left
       ·
        show Act.put _ (some 15) _ = _
        exact ap_
       refine norm_ ?_ (hJ (vconv, .slice (some ⟨gl, 0, none⟩) 6 6, .slice (some ⟨gl, 0, none⟩) 6 6, vfour) wv4 (HI.out.weaken (fun _ h => ?_)))
       ·
        simp only [putAll]; simp only [Act.put, List.setIfInBounds_toArray, List.set_cons_zero, List.set_cons_succ, i64_w, i32_w]
        try rfl
       ·
        refine ⟨?_, ?_, ?_, ?_⟩ <;> first | exact h.1 | exact h.2.1 | exact h.2.2.1 | exact h.2.2.2
      ·
       refine goes_ Try.func88 (by kernel_rfl) rfl #[.slice none 0 0, .int .i64 l1.length] (by rfl) rfl rfl qz13_ ?_
       refine (HI.out.four_ev ((l1.length : Int))).mono ?_
       rintro e wv3 ⟨vfour, rfl, HI_⟩
       refine ⟨_, rfl, ?_⟩
       clear HI; have HI := am_ HI_; clear HI_
       refine hK.out _ _ ((blk_cell ((HI.out).get 1 rfl) 2).trans rfl) (fun hHeld => ?_)
       clear hK K
       refine norm_ (a' := ?_) ?_ ?_
       rotate_left
       ·
        show Act.put _ (some 15) _ = _
        exact ap_
       refine one_ (i := 8) (N := some 12) #[true, true, true, true, true, true, true, true, true, true, true, true, true, false, false, false, false, false, false, false, false] rfl rfl (by kernel_rfl) (by decide) (fun K hK => ?_)
       obtain ⟨wv4, hcv, HI_⟩ := HI.out.mark_ev (xs := [97, 98, 115, 111, 114, 98]) (by decide)
       replace hcv : (convert 22 22 (.slice (some ⟨gl, 0, none⟩) 6 6)).run Try.prog wv3 = .ok (.slice (some ⟨gl, 0, none⟩) 6 6) wv4 := hcv
       refine value_ (by rfl) rfl (v := .slice (some ⟨gl, 0, none⟩) 6 6) (w1 := wv4) qz18_ ?_
       clear HI hcv; have HI := am_ HI_; clear HI_
       refine hK.out _ _ ((blk_cell ((HI.out).get 0 rfl) 2).trans rfl) (fun hHeld => ?_)
       clear hK K
       refine norm_ (a' := ?_) ?_ ?_
       rotate_left
       ·
        show Act.put _ (some 12) _ = _
        exact ap_
       refine norm_ ?_ (hJ (vconv, .slice (some ⟨gl, 0, none⟩) 6 6, .slice (some ⟨gl, 0, none⟩) 6 6, vfour) wv4 (HI.out.weaken (fun _ h => ?_)))
       ·
        simp only [putAll]; simp only [Act.put, List.setIfInBounds_toArray, List.set_cons_zero, List.set_cons_succ, i64_w, i32_w]
        try rfl
       ·
        refine ⟨?_, ?_, ?_, ?_⟩ <;> first | exact h.1 | exact h.2.1 | exact h.2.2.1 | exact h.2.2.2
     ·
      obtain ⟨wv2, hcv, HI_⟩ := HI.out.mark_ev (xs := [97, 98, 115, 111, 114, 98]) (by decide)
      replace hcv : (convert 22 22 (.slice (some ⟨gl, 0, none⟩) 6 6)).run Try.prog wv1 = .ok (.slice (some ⟨gl, 0, none⟩) 6 6) wv2 := hcv
      refine value_ (by rfl) rfl (v := .slice (some ⟨gl, 0, none⟩) 6 6) (w1 := wv2) qz18_ ?_
      clear HI hcv; have HI := am_ HI_; clear HI_
      refine hK.out _ _ ((blk_cell ((HI.out).get 0 rfl) 2).trans rfl) (fun hHeld => ?_)
      clear hK K
      refine norm_ (a' := ?_) ?_ ?_
      rotate_left
      ·
       show Act.put _ (some 12) _ = _
       exact ap_
      refine two_ (i := 6) (j := 11) (Ni := some 10) (Nj := some 15) #[true, true, true, true, true, true, true, true, true, true, true, false, true, false, false, false, false, false, false, false, false] #[true, true, true, true, true, true, false, true, true, true, true, true, true, false, false, false, false, false, false, false, false] rfl rfl rfl rfl (by kernel_rfl) (by decide) (by decide) (fun K hK => ?_) (fun K hK => ?_)
      ·
       obtain ⟨vconv, wv3, hcv, HI_⟩ := HI.out.conv_ev HST.out
       refine value_ (by rfl) rfl (v := vconv) (w1 := wv3) qz18_ ?_
       clear HI hcv; have HI := am_ HI_; clear HI_
       refine hK.out _ _ ((blk_cell ((HI.out).get 0 rfl) 2).trans rfl) (fun hHeld => ?_)
       clear hK K
       refine norm_ (a' := ?_) ?_ ?_
       rotate_left
       ·
        show Act.put _ (some 10) _ = _
        exact ap_
       refine one_ (i := 11) (N := some 15) #[true, true, true, true, true, true, true, true, true, true, true, true, true, false, false, false, false, false, false, false, false] rfl rfl (by kernel_rfl) (by decide) (fun K hK => ?_)
       refine goes_ Try.func88 (by kernel_rfl) rfl #[.slice none 0 0, .int .i64 l1.length] (by rfl) rfl rfl qz13_ ?_
       refine (HI.out.four_ev ((l1.length : Int))).mono ?_
       rintro e wv4 ⟨vfour, rfl, HI_⟩
       refine ⟨_, rfl, ?_⟩
       clear HI; have HI := am_ HI_; clear HI_
       refine hK.out _ _ ((blk_cell ((HI.out).get 0 rfl) 2).trans rfl) (fun hHeld => ?_)
       clear hK K
       refine norm_ (a' := ?_) ?_ ?_
       rotate_left
       ·
        show Act.put _ (some 15) _ = _
        exact ap_
       refine norm_ ?_ (hJ (vconv, .slice (some ⟨gl, 0, none⟩) 6 6, .slice (some ⟨gl, 0, none⟩) 6 6, vfour) wv4 (HI.out.weaken (fun _ h => ?_)))
       ·
        simp only [putAll]; simp only [Act.put, List.setIfInBounds_toArray, List.set_cons_zero, List.set_cons_succ, i64_w, i32_w]
        try rfl
       ·
        refine ⟨?_, ?_, ?_, ?_⟩ <;> first | exact h.1 | exact h.2.1 | exact h.2.2.1 | exact h.2.2.2
      ·
       refine goes_ Try.func88 (by kernel_rfl) rfl #[.slice none 0 0, .int .i64 l1.length] (by rfl) rfl rfl qz13_ ?_
       refine (HI.out.four_ev ((l1.length : Int))).mono ?_
       rintro e wv3 ⟨vfour, rfl, HI_⟩
       refine ⟨_, rfl, ?_⟩
       clear HI; have HI := am_ HI_; clear HI_
       refine hK.out _ _ ((blk_cell ((HI.out).get 0 rfl) 2).trans rfl) (fun hHeld => ?_)
       clear hK K
       refine norm_ (a' := ?_) ?_ ?_
       rotate_left
       ·
        show Act.put _ (some 15) _ = _
        exact ap_
       refine one_ (i := 6) (N := some 10) #[true, true, true, true, true, true, true, true, true, true, true, true, true, false, false, false, false, false, false, false, false] rfl rfl (by kernel_rfl) (by decide) (fun K hK => ?_)
       obtain ⟨vconv, wv4, hcv, HI_⟩ := HI.out.conv_ev HST.out
       refine value_ (by rfl) rfl (v := vconv) (w1 := wv4) qz18_ ?_
       clear HI hcv; have HI := am_ HI_; clear HI_
       refine hK.out _ _ ((blk_cell ((HI.out).get 0 rfl) 2).trans rfl) (fun hHeld => ?_)
       clear hK K
       refine norm_ (a' := ?_) ?_ ?_
       rotate_left
       ·
        show Act.put _ (some 10) _ = _
        exact ap_
       refine norm_ ?_ (hJ (vconv, .slice (some ⟨gl, 0, none⟩) 6 6, .slice (some ⟨gl, 0, none⟩) 6 6, vfour) wv4 (HI.out.weaken (fun _ h => ?_)))
       ·
        simp only [putAll]; simp only [Act.put, List.setIfInBounds_toArray, List.set_cons_zero, List.set_cons_succ, i64_w, i32_w]
        try rfl
       ·
        refine ⟨?_, ?_, ?_, ?_⟩ <;> first | exact h.1 | exact h.2.1 | exact h.2.2.1 | exact h.2.2.2
     ·
      refine goes_ Try.func88 (by kernel_rfl) rfl #[.slice none 0 0, .int .i64 l1.length] (by rfl) rfl rfl qz13_ ?_
      refine (HI.out.four_ev ((l1.length : Int))).mono ?_
      rintro e wv2 ⟨vfour, rfl, HI_⟩
      refine ⟨_, rfl, ?_⟩
      clear HI; have HI := am_ HI_; clear HI_
      refine hK.out _ _ ((blk_cell ((HI.out).get 1 rfl) 2).trans rfl) (fun hHeld => ?_)
      clear hK K
      refine norm_ (a' := ?_) ?_ ?_
      rotate_left
      ·
       show Act.put _ (some 15) _ = _
       exact ap_
      refine two_ (i := 6) (j := 8) (Ni := some 10) (Nj := some 12) #[true, true, true, true, true, true, true, true, false, true, true, true, true, false, false, false, false, false, false, false, false] #[true, true, true, true, true, true, false, true, true, true, true, true, true, false, false, false, false, false, false, false, false] rfl rfl rfl rfl (by kernel_rfl) (by decide) (by decide) (fun K hK => ?_) (fun K hK => ?_)
      ·
       obtain ⟨vconv, wv3, hcv, HI_⟩ := HI.out.conv_ev HST.out
       refine value_ (by rfl) rfl (v := vconv) (w1 := wv3) qz18_ ?_
       clear HI hcv; have HI := am_ HI_; clear HI_
       refine hK.out _ _ ((blk_cell ((HI.out).get 1 rfl) 2).trans rfl) (fun hHeld => ?_)
       clear hK K
       refine norm_ (a' := ?_) ?_ ?_
       rotate_left
       ·
        show Act.put _ (some 10) _ = _
        exact ap_
       refine one_ (i := 8) (N := some 12) #[true, true, true, true, true, true, true, true, true, true, true, true, true, false, false, false, false, false, false, false, false] rfl rfl (by kernel_rfl) (by decide) (fun K hK => ?_)
       obtain ⟨wv4, hcv, HI_⟩ := HI.out.mark_ev (xs := [97, 98, 115, 111, 114, 98]) (by decide)
       replace hcv : (convert 22 22 (.slice (some ⟨gl, 0, none⟩) 6 6)).run Try.prog wv3 = .ok (.slice (some ⟨gl, 0, none⟩) 6 6) wv4 := hcv
       refine value_ (by rfl) rfl (v := .slice (some ⟨gl, 0, none⟩) 6 6) (w1 := wv4) qz18_ ?_
       clear HI hcv; have HI := am_ HI_; clear HI_
       refine hK.out _ _ ((blk_cell ((HI.out).get 0 rfl) 2).trans rfl) (fun hHeld => ?_)
       clear hK K
       refine norm_ (a' := ?_) ?_ ?_
       rotate_left
       ·
        show Act.put _ (some 12) _ = _
        exact ap_
       refine norm_ ?_ (hJ (vconv, .slice (some ⟨gl, 0, none⟩) 6 6, .slice (some ⟨gl, 0, none⟩) 6 6, vfour) wv4 (HI.out.weaken (fun _ h => ?_)))
       ·
        simp only [putAll]; simp only [Act.put, List.setIfInBounds_toArray, List.set_cons_zero, List.set_cons_succ, i64_w, i32_w]
        try rfl
       ·
        refine ⟨?_, ?_, ?_, ?_⟩ <;> first | exact h.1 | exact h.2.1 | exact h.2.2.1 | exact h.2.2.2
      ·
       obtain ⟨wv3, hcv, HI_⟩ := HI.out.mark_ev (xs := [97, 98, 115, 111, 114, 98]) (by decide)
       replace hcv : (convert 22 22 (.slice (some ⟨gl, 0, none⟩) 6 6)).run Try.prog wv2 = .ok (.slice (some ⟨gl, 0, none⟩) 6 6) wv3 := hcv
       refine value_ (by rfl) rfl (v := .slice (some ⟨gl, 0, none⟩) 6 6) (w1 := wv3) qz18_ ?_
       clear HI hcv; have HI := am_ HI_; clear HI_
       refine hK.out _ _ ((blk_cell ((HI.out).get 0 rfl) 2).trans rfl) (fun hHeld => ?_)
       clear hK K
       refine norm_ (a' := ?_) ?_ ?_
       rotate_left
       ·
        show Act.put _ (some 12) _ = _
        exact ap_
       refine one_ (i := 6) (N := some 10) #[true, true, true, true, true, true, true, true, true, true, true, true, true, false, false, false, false, false, false, false, false] rfl rfl (by kernel_rfl) (by decide) (fun K hK => ?_)
       obtain ⟨vconv, wv4, hcv, HI_⟩ := HI.out.conv_ev HST.out
       refine value_ (by rfl) rfl (v := vconv) (w1 := wv4) qz18_ ?_
       clear HI hcv; have HI := am_ HI_; clear HI_
       refine hK.out _ _ ((blk_cell ((HI.out).get 0 rfl) 2).trans rfl) (fun hHeld => ?_)
       clear hK K
       refine norm_ (a' := ?_) ?_ ?_
       rotate_left
       ·
        show Act.put _ (some 10) _ = _
        exact ap_
       refine norm_ ?_ (hJ (vconv, .slice (some ⟨gl, 0, none⟩) 6 6, .slice (some ⟨gl, 0, none⟩) 6 6, vfour) wv4 (HI.out.weaken (fun _ h => ?_)))
       ·
        simp only [putAll]; simp only [Act.put, List.setIfInBounds_toArray, List.set_cons_zero, List.set_cons_succ, i64_w, i32_w]
        try rfl
       ·
        refine ⟨?_, ?_, ?_, ?_⟩ <;> first | exact h.1 | exact h.2.1 | exact h.2.2.1 | exact h.2.2.2
    ·
     refine goes_ Try.func88 (by kernel_rfl) rfl #[.slice none 0 0, .int .i64 l1.length] (by rfl) rfl rfl qz13_ ?_
     refine (HI.out.four_ev ((l1.length : Int))).mono ?_
     rintro e wv1 ⟨vfour, rfl, HI_⟩
     refine ⟨_, rfl, ?_⟩
     clear HI; have HI := am_ HI_; clear HI_
     refine hK.out _ _ ((blk_cell ((HI.out).get 0 rfl) 2).trans rfl) (fun hHeld => ?_)
     clear hK K
     refine norm_ (a' := ?_) ?_ ?_
     rotate_left
     ·
      show Act.put _ (some 15) _ = _
      exact ap_
     refine two_ (i := 6) (j := 7) (Ni := some 10) (Nj := some 11) #[true, true, true, true, true, true, true, false, false, true, true, true, true, false, false, false, false, false, false, false, false] #[true, true, true, true, true, true, false, true, false, true, true, true, true, false, false, false, false, false, false, false, false] rfl rfl rfl rfl (by kernel_rfl) (by decide) (by decide) (fun K hK => ?_) (fun K hK => ?_)
     ·
      obtain ⟨vconv, wv2, hcv, HI_⟩ := HI.out.conv_ev HST.out
      refine value_ (by rfl) rfl (v := vconv) (w1 := wv2) qz18_ ?_
      clear HI hcv; have HI := am_ HI_; clear HI_
      refine hK.out _ _ ((blk_cell ((HI.out).get 0 rfl) 2).trans rfl) (fun hHeld => ?_)
      clear hK K
      refine norm_ (a' := ?_) ?_ ?_
      rotate_left
      ·
       show Act.put _ (some 10) _ = _
       exact ap_
      refine one_ (i := 7) (N := some 11) #[true, true, true, true, true, true, true, true, false, true, true, true, true, false, false, false, false, false, false, false, false] rfl rfl (by kernel_rfl) (by decide) (fun K hK => ?_)
      have HI_ := am_ (HI.out.lit_ev #[.int .u8 97, .int .u8 98, .int .u8 115, .int .u8 111, .int .u8 114, .int .u8 98] 5); clear HI; have HI := HI_; clear HI_
      refine value_ (by rfl) rfl (v := .slice (some ⟨wv2.heap.size, 0, none⟩) 6 6) (w1 := wv2.alloc (.cells #[.int .u8 97, .int .u8 98, .int .u8 115, .int .u8 111, .int .u8 114, .int .u8 98] 5)) qz18_ ?_
      generalize wv2.alloc (.cells #[.int .u8 97, .int .u8 98, .int .u8 115, .int .u8 111, .int .u8 114, .int .u8 98] 5) = wv3 at HI ⊢
      generalize wv2.heap.size = gl at HI ⊢
      refine hK.out _ _ ((blk_cell ((HI.out).get 1 rfl) 2).trans rfl) (fun hHeld => ?_)
      clear hK K
      refine norm_ (a' := ?_) ?_ ?_
      rotate_left
      ·
       show Act.put _ (some 11) _ = _
       exact ap_
      refine one_ (i := 8) (N := some 12) #[true, true, true, true, true, true, true, true, true, true, true, true, true, false, false, false, false, false, false, false, false] rfl rfl (by kernel_rfl) (by decide) (fun K hK => ?_)
      obtain ⟨wv4, hcv, HI_⟩ := HI.out.mark_ev (xs := [97, 98, 115, 111, 114, 98]) (by decide)
      replace hcv : (convert 22 22 (.slice (some ⟨gl, 0, none⟩) 6 6)).run Try.prog wv3 = .ok (.slice (some ⟨gl, 0, none⟩) 6 6) wv4 := hcv
      refine value_ (by rfl) rfl (v := .slice (some ⟨gl, 0, none⟩) 6 6) (w1 := wv4) qz18_ ?_
      clear HI hcv; have HI := am_ HI_; clear HI_
      refine hK.out _ _ ((blk_cell ((HI.out).get 0 rfl) 2).trans rfl) (fun hHeld => ?_)
      clear hK K
      refine norm_ (a' := ?_) ?_ ?_
      rotate_left
      ·
       show Act.put _ (some 12) _ = _
       exact ap_
      refine norm_ ?_ (hJ (vconv, .slice (some ⟨gl, 0, none⟩) 6 6, .slice (some ⟨gl, 0, none⟩) 6 6, vfour) wv4 (HI.out.weaken (fun _ h => ?_)))
      ·
       simp only [putAll]; simp only [Act.put, List.setIfInBounds_toArray, List.set_cons_zero, List.set_cons_succ, i64_w, i32_w]
       try rfl
      ·
       refine ⟨?_, ?_, ?_, ?_⟩ <;> first | exact h.1 | exact h.2.1 | exact h.2.2.1 | exact h.2.2.2
     ·
      have HI_ := am_ (HI.out.lit_ev #[.int .u8 97, .int .u8 98, .int .u8 115, .int .u8 111, .int .u8 114, .int .u8 98] 5); clear HI; have HI := HI_; clear HI_
      refine value_ (by rfl) rfl (v := .slice (some ⟨wv1.heap.size, 0, none⟩) 6 6) (w1 := wv1.alloc (.cells #[.int .u8 97, .int .u8 98, .int .u8 115, .int .u8 111, .int .u8 114, .int .u8 98] 5)) qz18_ ?_
      generalize wv1.alloc (.cells #[.int .u8 97, .int .u8 98, .int .u8 115, .int .u8 111, .int .u8 114, .int .u8 98] 5) = wv2 at HI ⊢
      generalize wv1.heap.size = gl at HI ⊢
      refine hK.out _ _ ((blk_cell ((HI.out).get 1 rfl) 2).trans rfl) (fun hHeld => ?_)
      clear hK K
      refine norm_ (a' := ?_) ?_ ?_
      rotate_left
      ·
       show Act.put _ (some 11) _ = _
       exact ap_
      refine two_ (i := 6) (j := 8) (Ni := some 10) (Nj := some 12) #[true, true, true, true, true, true, true, true, false, true, true, true, true, false, false, false, false, false, false, false, false] #[true, true, true, true, true, true, false, true, true, true, true, true, true, false, false, false, false, false, false, false, false] rfl rfl rfl rfl (by kernel_rfl) (by decide) (by decide) (fun K hK => ?_) (fun K hK => ?_)
      ·
       obtain ⟨vconv, wv3, hcv, HI_⟩ := HI.out.conv_ev HST.out
       refine value_ (by rfl) rfl (v := vconv) (w1 := wv3) qz18_ ?_
       clear HI hcv; have HI := am_ HI_; clear HI_
       refine hK.out _ _ ((blk_cell ((HI.out).get 1 rfl) 2).trans rfl) (fun hHeld => ?_)
       clear hK K
       refine norm_ (a' := ?_) ?_ ?_
       rotate_left
       ·
        show Act.put _ (some 10) _ = _
        exact ap_
       refine one_ (i := 8) (N := some 12) #[true, true, true, true, true, true, true, true, true, true, true, true, true, false, false, false, false, false, false, false, false] rfl rfl (by kernel_rfl) (by decide) (fun K hK => ?_)
       obtain ⟨wv4, hcv, HI_⟩ := HI.out.mark_ev (xs := [97, 98, 115, 111, 114, 98]) (by decide)
       replace hcv : (convert 22 22 (.slice (some ⟨gl, 0, none⟩) 6 6)).run Try.prog wv3 = .ok (.slice (some ⟨gl, 0, none⟩) 6 6) wv4 := hcv
       refine value_ (by rfl) rfl (v := .slice (some ⟨gl, 0, none⟩) 6 6) (w1 := wv4) qz18_ ?_
       clear HI hcv; have HI := am_ HI_; clear HI_
       refine hK.out _ _ ((blk_cell ((HI.out).get 0 rfl) 2).trans rfl) (fun hHeld => ?_)
       clear hK K
       refine norm_ (a' := ?_) ?_ ?_
       rotate_left
       ·
        show Act.put _ (some 12) _ = _
        exact ap_
       refine norm_ ?_ (hJ (vconv, .slice (some ⟨gl, 0, none⟩) 6 6, .slice (some ⟨gl, 0, none⟩) 6 6, vfour) wv4 (HI.out.weaken (fun _ h => ?_)))
       ·
        simp only [putAll]; simp only [Act.put, List.setIfInBounds_toArray, List.set_cons_zero, List.set_cons_succ, i64_w, i32_w]
        try rfl
       ·
        refine ⟨?_, ?_, ?_, ?_⟩ <;> first | exact h.1 | exact h.2.1 | exact h.2.2.1 | exact h.2.2.2
      ·
       obtain ⟨wv3, hcv, HI_⟩ := HI.out.mark_ev (xs := [97, 98, 115, 111, 114, 98]) (by decide)
       replace hcv : (convert 22 22 (.slice (some ⟨gl, 0, none⟩) 6 6)).run Try.prog wv2 = .ok (.slice (some ⟨gl, 0, none⟩) 6 6) wv3 := hcv
       refine value_ (by rfl) rfl (v := .slice (some ⟨gl, 0, none⟩) 6 6) (w1 := wv3) qz18_ ?_
       clear HI hcv; have HI := am_ HI_; clear HI_
       refine hK.out _ _ ((blk_cell ((HI.out).get 0 rfl) 2).trans rfl) (fun hHeld => ?_)
       clear hK K
       refine norm_ (a' := ?_) ?_ ?_
       rotate_left
       ·
        show Act.put _ (some 12) _ = _
        exact ap_
       refine one_ (i := 6) (N := some 10) #[true, true, true, true, true, true, true, true, true, true, true, true, true, false, false, false, false, false, false, false, false] rfl rfl (by kernel_rfl) (by decide) (fun K hK => ?_)
       obtain ⟨vconv, wv4, hcv, HI_⟩ := HI.out.conv_ev HST.out
       refine value_ (by rfl) rfl (v := vconv) (w1 := wv4) qz18_ ?_
       clear HI hcv; have HI := am_ HI_; clear HI_
       refine hK.out _ _ ((blk_cell ((HI.out).get 0 rfl) 2).trans rfl) (fun hHeld => ?_)
       clear hK K
       refine norm_ (a' := ?_) ?_ ?_
       rotate_left
       ·
        show Act.put _ (some 10) _ = _
        exact ap_
       refine norm_ ?_ (hJ (vconv, .slice (some ⟨gl, 0, none⟩) 6 6, .slice (some ⟨gl, 0, none⟩) 6 6, vfour) wv4 (HI.out.weaken (fun _ h => ?_)))
       ·
        simp only [putAll]; simp only [Act.put, List.setIfInBounds_toArray, List.set_cons_zero, List.set_cons_succ, i64_w, i32_w]
        try rfl
       ·
        refine ⟨?_, ?_, ?_, ?_⟩ <;> first | exact h.1 | exact h.2.1 | exact h.2.2.1 | exact h.2.2.2
   ·
    rintro ⟨v0, v1, v2, v3⟩ wj HI0
    have HI := am_ HI0
    clear HI0
    refine norm_ (a' := ?_) ?_ ?_
    rotate_left
    ·
     simp only [putAll]; simp only [Act.put, List.setIfInBounds_toArray, List.set_cons_zero, List.set_cons_succ, i64_w, i32_w]
     try rfl
    obtain ⟨Aq0, cq0, eq_, _, _⟩ := HI.out.now.1; subst eq_
    obtain ⟨Aq2, cq2, eq_, _, _⟩ := HI.out.now.2.1; subst eq_
    obtain ⟨Aq3, cq3, eq_, _, _⟩ := HI.out.now.2.2.1; subst eq_
    refine one_ (i := 13) (N := some 17) #[true, true, true, true, true, true, true, true, true, true, true, true, true, true, false, false, false, false, false, false, false] rfl rfl (by kernel_rfl) (by decide) (fun K hK => ?_)
    refine value_ (by rfl) rfl (v := .slice (some ⟨wj.heap.size, 0, none⟩) 4 4) (w1 := wj.alloc (.cells #[.slice Aq0 (nums_ s0_2).length cq0, .slice Aq2 6 cq2, .slice Aq3 (four_ (l1.length : Int)).length cq3, .slice A1 l1.length c1] 22)) qz18_ ?_
    refine hK.out _ _ ((blk_cell ((HI.out.alloc _).get 0 rfl) 2).trans rfl) (fun hHeld => ?_)
    clear hK K
    refine norm_ (a' := ?_) ?_ ?_
    rotate_left
    ·
     show Act.put _ (some 17) _ = _
     exact ap_
    refine one_ (i := 14) (N := some 18) #[true, true, true, true, true, true, true, true, true, true, true, true, true, true, true, false, false, false, false, false, false] rfl rfl (by kernel_rfl) (by decide) (fun K hK => ?_)
    refine goes_ Try.func56 (by kernel_rfl) rfl #[.slice (some ⟨wj.heap.size, 0, none⟩) 4 4] (by rfl) rfl rfl qz13_ ?_
    have hp := pieces4 (W := wj) (T := 22) HI.out.now.1 HI.out.now.2.1 HI.out.now.2.2.1 ⟨A1, c1, rfl, HC1.out, HI.out.now.2.2.2⟩
    refine (impl_keccak.walk (some ⟨wj.heap.size, 0, none⟩) 4 [nums_ s0_2, [97, 98, 115, 111, 114, 98], four_ (l1.length : Int), l1] _ hp (by have := HST.out; have := HL1.out; simp [nums_length, four_length]; omega) (by simp)).mono ?_
    rintro e wk ⟨rfl, hb⟩
    rw [HKE.out]
    refine ⟨_, rfl, ?_⟩
    have HI_ := am_ ((HI.out.alloc _).grow hb); clear HI; have HI := HI_; clear HI_
    clear hb hp
    refine hK.out _ _ ((blk_cell ((HI.out).get 0 rfl) 2).trans rfl) (fun hHeld => ?_)
    clear hK K
    refine norm_ (a' := ?_) ?_ ?_
    rotate_left
    ·
     show Act.put _ (some 18) _ = _
     exact ap_
    have hk2 : wk.cell? ⟨g, 2, none⟩ = some (.string s0_2) := (blk_cell HI.out.blk0 2).trans rfl
    have hk3 : wk.cell? ⟨g, 3, none⟩ = some (.int .i64 s0_3) := (blk_cell HI.out.blk0 3).trans rfl
    have hf2 := blk_frozen HI.out.blk0 2
    have hf3 := blk_frozen HI.out.blk0 3
    refine pure_ (i := 15) (N := some 19) (v := ?_) (a' := ?_) #[true, true, true, true, true, true, true, true, true, true, true, true, true, true, true, true, false, false, false, false, false] rfl rfl (by kernel_rfl) (fun _ _ _ h => h) (Or.inl ⟨(by rfl), ?_⟩) ?_ ?_
    rotate_left
    ·
     intro w'
     go_simp
     with_reducible rfl
    rotate_left
    ·
     exact ap_
    refine pure_ (i := 16) (N := some 20) (v := ?_) (a' := ?_) #[true, true, true, true, true, true, true, true, true, true, true, true, true, true, true, true, true, false, false, false, false] rfl rfl (by kernel_rfl) (fun _ _ _ h => h) (Or.inl ⟨(by rfl), ?_⟩) ?_ ?_
    rotate_left
    ·
     intro w'
     go_simp
     with_reducible rfl
    rotate_left
    ·
     exact ap_
    refine last_ (i := 17) (N := none) #[true, true, true, true, true, true, true, true, true, true, true, true, true, true, true, true, true, true, false, false, false] rfl rfl (by kernel_rfl) (by decide) (fun K hK => ?_)
    refine skip_ (w1 := ?_) (by rfl) rfl ?_ ?_
    rotate_left
    ·
     go_simp
     rfl
    refine hK.out _ _ ?_
    clear hK K
    refine pure_ (i := 18) (N := some 21) (v := ?_) (a' := ?_) #[true, true, true, true, true, true, true, true, true, true, true, true, true, true, true, true, true, true, true, false, false] rfl rfl (by kernel_rfl) (fun _ _ _ h => h) (Or.inl ⟨(by rfl), ?_⟩) ?_ ?_
    rotate_left
    ·
     intro w'
     go_simp
     with_reducible rfl
    rotate_left
    ·
     exact ap_
    refine pure_ (i := 19) (N := some 22) (v := ?_) (a' := ?_) #[true, true, true, true, true, true, true, true, true, true, true, true, true, true, true, true, true, true, true, true, false] rfl rfl (by kernel_rfl) (fun _ _ _ h => h) (Or.inl ⟨(by rfl), ?_⟩) ?_ ?_
    rotate_left
    ·
     intro w'
     go_simp
     with_reducible rfl
    rotate_left
    ·
     exact ap_
    refine last_ (i := 20) (N := none) #[true, true, true, true, true, true, true, true, true, true, true, true, true, true, true, true, true, true, true, true, true] rfl rfl (by kernel_rfl) (by decide) (fun K hK => ?_)
    refine skip_ (w1 := ?_) (by rfl) rfl ?_ ?_
    rotate_left
    ·
     go_simp
     rfl
    refine hK.out _ _ ?_
    clear hK K
    refine done_ (by kernel_rfl) ?_
    have HI2 := am_ ((HI.out.set0 2 (.string r2)).set0 3 (.int .i64 0))
    clear hk2 hk3 hf2 hf3
    try go_wp2
    first | go_end0 | ((try simp only [Exit.inBlock, Exit.then]); refine bodyPost_ret (results_none rfl _ _ _) rfl ?_)
    exact ⟨by first | rfl | simp, ⟨A0, c0, HI2.out.blk0, HGQ.out, HR0.out⟩, HI2.out.agr.onto HB.out (fun k hk => by obtain rfl : k = g := hk; exact HGE.out), HI2.out.agr.keep⟩
  ·
   rw [if_neg cl] at h; cases h
 ·
  rw [if_neg cs] at h; cases h
theorem impl_Source_absorb.calls (g : Nat) (s0_0 : List (S34)) (s0_1 : Int) (s0_2 : ByteArray) (s0_3 : Int) (A1 : Option Addr) (c1 : Nat) (l1 : List Int) (r1 : Int) (r2 : ByteArray) (r3 : Int) (w0 w : World) (hI : IsS27 w0 w g s0_0 s0_1 s0_2 s0_3) (hB : Below w0.heap.size w0 w) (hr1 : Kd.C (Kd.int .u8) w A1 l1.length l1) (hc1 : l1.length ≤ c1) (hf1 : ∀ ad, A1 = some ad → 0 < l1.length → ad.block ≠ g) (h : impl_Source_absorb.f s0_0 s0_1 s0_2 s0_3 l1 = some (r1, r2, r3)) :
  Calls Try.prog 49 #[.pointer (some ⟨g, 0, none⟩), .slice A1 l1.length c1] w fun e w' => e = .returned (.tuple #[]) ∧ IsS27 w0 w' g s0_0 r1 r2 r3 ∧ Below w0.heap.size w0 w' ∧ KeepBut w w' g none :=
 impl_Source_absorb.calls0 g s0_0 s0_1 s0_2 s0_3 A1 c1 l1 r1 r2 r3 w0 w hI hB (Kd.C_foot_ne (d := (Kd.int .u8)) (fun h => h) hr1 hf1) hc1 h

theorem Inv.putKeep {w0 w w' wb : World} {P : Nat → Prop} {F : World → Prop} {L : List Grp} {g : Nat} {t : TypeId} {cs cs' : Array Value} (h : Inv w0 P w (blk g t cs :: L) F) (hb : Below wb.heap.size wb w) (hb' : Below wb.heap.size wb w') (hk : KeepBut w w' g none) (hblk : w'.heap[g]? = some (.cells cs' t (0, 0))) : Inv w0 P w' (blk g t cs' :: L) F :=
 h.step (Agr.of_keep hk hb hb') (blk g t cs') (fun k hk2 => ⟨.inl hk2, (by obtain rfl : k = g := hk2; exact blk_lt hblk)⟩) (fun w2 hw => (hw g rfl).trans hblk)
theorem Inv.factsKeep {w0 w w' : World} {P : Nat → Prop} {F : World → Prop} {L : List Grp} {g : Nat} {t : TypeId} {cs : Array Value} (h : Inv w0 P w (blk g t cs :: L) F) (hk : KeepBut w w' g none) : F { w with heap := w'.heap } :=
 h.facts _ ⟨rfl, rfl, rfl, hk.1, fun k hlt hn => hk.2 k hlt (fun e => hn ⟨_, List.mem_cons_self, e⟩) (by simp)⟩
theorem absorb_read {A : Option Addr} {c n : Nat} {l : List Int} {w W : World} (h : Piece (.slice A n c) l {w with heap := W.heap}) : Kd.C (Kd.int .u8) W A l.length l := by
 obtain ⟨A', c', e, _, hC⟩ := h
 injection e with e1 e2 e3
 rw [e1]
 exact hC
def impl_AbsorbText.f (l0_0 : List (S34)) (a0_1 : Int) (a0_2 : ByteArray) (a0_3 : Int) (a1 : ByteArray) : Option ((List (S34)) × Int × ByteArray × Int × Int) :=
 if (a1.size : Int) > 65536 then some ([], 0, (⟨#[]⟩ : ByteArray), 0, 2)
 else (impl_SourceOK.f l0_0 a0_1 a0_2 a0_3).bind fun t1 => if t1 = true then ((impl_Source_copied.f l0_0 a0_1 a0_2 a0_3).bind fun t2 => (impl_Source_absorb.f t2.1 t2.2.1 t2.2.2.1 t2.2.2.2 (nums_ a1)).bind fun t3 => some (t2.1, t3.1, t3.2.1, t3.2.2, 0)) else some ([], 0, (⟨#[]⟩ : ByteArray), 0, 1)
set_option maxHeartbeats 8000000 in
set_option maxRecDepth 100000 in
theorem impl_AbsorbText.calls (A0_0 : Option Addr) (c0_0 : Nat) (l0_0 : List (S34)) (a0_1 : Int) (a0_2 : ByteArray) (a0_3 : Int) (a1 : ByteArray) (r1 : List (S34)) (r2 : Int) (r3 : ByteArray) (r4 r5 : Int) (w : World) (hr0_0 : Kd.C k34 w A0_0 l0_0.length l0_0) (hc0_0 : l0_0.length ≤ c0_0) (h : impl_AbsorbText.f l0_0 a0_1 a0_2 a0_3 a1 = some (r1, r2, r3, r4, r5)) :
  Calls Try.prog 12 #[.agg #[.slice A0_0 l0_0.length c0_0, .int .i64 a0_1, .string a0_2, .int .i64 a0_3], .string a1] w fun e w' => ∃ v0_ : Value, e = .returned (.tuple #[.agg #[v0_, .int .i64 r2, .string r3, .int .i64 r4], .int .i64 r5]) ∧ Kd.R k34 34 w' w.heap.size (fun _ => True) v0_ r1 ∧ Below w.heap.size w w' := by
 have hu27 := Try.underlying27
 have HC0 := am_ hc0_0
 have HI := am_ (Inv.start w (fun w2 => Kd.C k34 w2 A0_0 l0_0.length l0_0) (fun w' hb => Kd.C_below hr0_0 hb))
 clear hr0_0 hc0_0
 unfold impl_AbsorbText.f at h
 by_cases cl : (a1.size : Int) > 65536
 ·
  rw [if_pos cl] at h
  simp only [Option.some.injEq, Prod.mk.injEq] at h
  obtain ⟨rfl, rfl, rfl, rfl, rfl⟩ := h
  have c1 : decide ((a1.size : Int) > 65536) = true := decide_eq_true cl
  go_enter Try.func12, Try.ntmps12
  go_wp2_with (first | ((with_reducible refine gate_dst (N := 2) rfl ?_); refine box_event ?hg (N := 2) ?hd (cs := #[.slice A0_0 l0_0.length c0_0, .int .i64 a0_1, .string a0_2, .int .i64 a0_3]) (t := 27) ?hr ?_; (case hd => rfl); (case hg => rfl); (case hr => first | (go_simp; done) | (go_simp; rfl)); intro gs hg ws hbox hb; have HI_ := am_ ((HI.out).box hg hbox hb); clear HI; have HI := HI_; clear HI_; clear hb hbox hg) | ((with_reducible refine gate_dst (N := 4) rfl ?_); refine box_event ?hg (N := 4) ?hd (cs := #[.slice none 0 0, .int .i64 0, .string (⟨#[]⟩ : ByteArray), .int .i64 0]) (t := 27) ?hr ?_; (case hd => rfl); (case hg => rfl); (case hr => first | (go_simp; done) | (go_simp; rfl)); intro gr hg wr hbox hb; have HI_ := am_ ((HI.out).box hg hbox hb); clear HI; have HI := HI_; clear HI_; clear hb hbox hg) | (go_at_call 41; (refine (impl_isLong.calls a1 _ _ rfl).mono ?_); rintro e w9 ⟨rfl, ⟨n9, rfl⟩⟩; have HI_ := am_ (HI.out.drewN n9); clear HI; have HI := HI_; clear HI_) | ((with_reducible refine gate_store (p := 4) (v := (.tmp 10)) (t := 27) rfl ?_); go_must (refine wpList_store_row rfl 27 _ _ rfl gr (#[.slice none 0 0, .int .i64 0, .string (⟨#[]⟩ : ByteArray), .int .i64 0]) rfl qz11_ 27 (#[.slice none 0 0, .int .i64 0, .string (⟨#[]⟩ : ByteArray), .int .i64 0]) (Inv.blk0 (HI.out)) (by kernel_rfl) (by rfl) (by first | rfl | simp [Value.oneCell']) ?_; have HI_ := am_ (Inv.put0 (HI.out) (#[.slice none 0 0, .int .i64 0, .string (⟨#[]⟩ : ByteArray), .int .i64 0])); clear HI; have HI := HI_; clear HI_; generalize World.setRow _ gr (#[.slice none 0 0, .int .i64 0, .string (⟨#[]⟩ : ByteArray), .int .i64 0]) = w5 at HI ⊢)))
  refine bodyPost_ret (results_ct rfl _ _ gr 27 #[.slice none 0 0, .int .i64 0, .string (⟨#[]⟩ : ByteArray), .int .i64 0] (0, 0) _ rfl HI.out.blk0 hu27 rfl (by kernel_rfl)) rfl ?_
  exact ⟨_, rfl, Kd.R_nil _ _ _ _ _, HI.out.below⟩
 ·
  rw [if_neg cl] at h
  have c1 : decide ((a1.size : Int) > 65536) = false := decide_eq_false cl
  obtain ⟨t1, hok, h⟩ := Option.bind_eq_some_iff.1 h
  have HOK := am_ hok
  have HST := am_ (show a1.size ≤ 2000000 by omega)
  clear hok cl
  cases t1 with
  | false =>
   simp only [Bool.false_eq_true, if_false, Option.some.injEq, Prod.mk.injEq] at h
   obtain ⟨rfl, rfl, rfl, rfl, rfl⟩ := h
   go_enter Try.func12, Try.ntmps12
   go_wp2_with (first | ((with_reducible refine gate_dst (N := 2) rfl ?_); refine box_event ?hg (N := 2) ?hd (cs := #[.slice A0_0 l0_0.length c0_0, .int .i64 a0_1, .string a0_2, .int .i64 a0_3]) (t := 27) ?hr ?_; (case hd => rfl); (case hg => rfl); (case hr => first | (go_simp; done) | (go_simp; rfl)); intro gs hg ws hbox hb; have HI_ := am_ ((HI.out).box hg hbox hb); clear HI; have HI := HI_; clear HI_; clear hb hbox hg) | ((with_reducible refine gate_dst (N := 4) rfl ?_); refine box_event ?hg (N := 4) ?hd (cs := #[.slice none 0 0, .int .i64 0, .string (⟨#[]⟩ : ByteArray), .int .i64 0]) (t := 27) ?hr ?_; (case hd => rfl); (case hg => rfl); (case hr => first | (go_simp; done) | (go_simp; rfl)); intro gr hg wr hbox hb; have HI_ := am_ ((HI.out).box hg hbox hb); clear HI; have HI := HI_; clear HI_; clear hb hbox hg) | (go_at_call 41; (refine (impl_isLong.calls a1 _ _ rfl).mono ?_); rintro e w9 ⟨rfl, ⟨n9, rfl⟩⟩; have HI_ := am_ (HI.out.drewN n9); clear HI; have HI := HI_; clear HI_) | ((with_reducible refine gate_dst (N := 12) rfl ?_); go_must (refine wpList_load_row rfl 27 _ rfl gs rfl 27 (#[.slice A0_0 l0_0.length c0_0, .int .i64 a0_1, .string a0_2, .int .i64 a0_3]) (0, 0) _ ((HI.out.swap).blk0) hu27 rfl (by kernel_rfl) ?_)) | (go_at_call 11; (refine (impl_SourceOK.calls A0_0 c0_0 l0_0 a0_1 a0_2 a0_3 false _ HI.out.now HC0.out HOK.out).mono ?_); rintro e w13 ⟨rfl, hb13⟩; have HI_ := am_ (HI.out.grow hb13); clear HI; have HI := HI_; clear HI_; clear hb13) | ((with_reducible refine gate_store (p := 4) (v := (.tmp 15)) (t := 27) rfl ?_); go_must (refine wpList_store_row rfl 27 _ _ rfl gr (#[.slice none 0 0, .int .i64 0, .string (⟨#[]⟩ : ByteArray), .int .i64 0]) rfl qz11_ 27 (#[.slice none 0 0, .int .i64 0, .string (⟨#[]⟩ : ByteArray), .int .i64 0]) (Inv.blk0 (HI.out)) (by kernel_rfl) (by rfl) (by first | rfl | simp [Value.oneCell']) ?_; have HI_ := am_ (Inv.put0 (HI.out) (#[.slice none 0 0, .int .i64 0, .string (⟨#[]⟩ : ByteArray), .int .i64 0])); clear HI; have HI := HI_; clear HI_; generalize World.setRow _ gr (#[.slice none 0 0, .int .i64 0, .string (⟨#[]⟩ : ByteArray), .int .i64 0]) = w5 at HI ⊢)))
   refine bodyPost_ret (results_ct rfl _ _ gr 27 #[.slice none 0 0, .int .i64 0, .string (⟨#[]⟩ : ByteArray), .int .i64 0] (0, 0) _ rfl HI.out.blk0 hu27 rfl (by kernel_rfl)) rfl ?_
   exact ⟨_, rfl, Kd.R_nil _ _ _ _ _, HI.out.below⟩
  | true =>
   simp only [if_true] at h
   obtain ⟨⟨s0, s1, s2, s3⟩, hcp, h⟩ := Option.bind_eq_some_iff.1 h
   obtain ⟨⟨q1, q2, q3⟩, hab, h⟩ := Option.bind_eq_some_iff.1 h
   simp only [Option.some.injEq, Prod.mk.injEq] at h
   obtain ⟨rfl, rfl, rfl, rfl, rfl⟩ := h
   have HCP := am_ hcp
   have HAB := am_ (show impl_Source_absorb.f s0 s1 s2 s3 (nums_ a1) = some (q1, q2, q3) from hab)
   clear hcp hab
   go_enter Try.func12, Try.ntmps12
   go_wp2_with (first | ((with_reducible refine gate_dst (N := 2) rfl ?_); refine box_event ?hg (N := 2) ?hd (cs := #[.slice A0_0 l0_0.length c0_0, .int .i64 a0_1, .string a0_2, .int .i64 a0_3]) (t := 27) ?hr ?_; (case hd => rfl); (case hg => rfl); (case hr => first | (go_simp; done) | (go_simp; rfl)); intro gs hg ws hbox hb; have HI_ := am_ ((HI.out).box hg hbox hb); clear HI; have HI := HI_; clear HI_; clear hb hbox hg) | ((with_reducible refine gate_dst (N := 4) rfl ?_); refine box_event ?hg (N := 4) ?hd (cs := #[.slice none 0 0, .int .i64 0, .string (⟨#[]⟩ : ByteArray), .int .i64 0]) (t := 27) ?hr ?_; (case hd => rfl); (case hg => rfl); (case hr => first | (go_simp; done) | (go_simp; rfl)); intro gr hg wr hbox hb; have HI_ := am_ ((HI.out).box hg hbox hb); clear HI; have HI := HI_; clear HI_; clear hb hbox hg) | (go_at_call 41; (refine (impl_isLong.calls a1 _ _ rfl).mono ?_); rintro e w9 ⟨rfl, ⟨n9, rfl⟩⟩; have HI_ := am_ (HI.out.drewN n9); clear HI; have HI := HI_; clear HI_) | ((with_reducible refine gate_dst (N := 12) rfl ?_); go_must (refine wpList_load_row rfl 27 _ rfl gs rfl 27 (#[.slice A0_0 l0_0.length c0_0, .int .i64 a0_1, .string a0_2, .int .i64 a0_3]) (0, 0) _ ((HI.out.swap).blk0) hu27 rfl (by kernel_rfl) ?_)) | (go_at_call 11; (refine (impl_SourceOK.calls A0_0 c0_0 l0_0 a0_1 a0_2 a0_3 true _ HI.out.now HC0.out HOK.out).mono ?_); rintro e w13 ⟨rfl, hb13⟩; have HI_ := am_ (HI.out.grow hb13); clear HI; have HI := HI_; clear HI_; clear hb13) | ((with_reducible refine gate_dst (N := 16) rfl ?_); go_must (refine wpList_load_row rfl 27 _ rfl gs rfl 27 (#[.slice A0_0 l0_0.length c0_0, .int .i64 a0_1, .string a0_2, .int .i64 a0_3]) (0, 0) _ ((HI.out.swap).blk0) hu27 rfl (by kernel_rfl) ?_)) | (go_at_call 48; (refine (impl_Source_copied.calls A0_0 c0_0 l0_0 a0_1 a0_2 a0_3 s0 s1 s2 s3 _ HI.out.now HC0.out HCP.out).mono ?_); rintro e w17 ⟨v0, rfl, hR17, hb17⟩; obtain ⟨Ao, co, eo⟩ := Kd.R_slice hR17; subst eo; have HI_ := am_ (HI.out.rowPush hb17 hR17); clear HI; have HI := HI_; clear HI_; have HR17 := am_ (Kd.R_reads' hR17).2.2; have HJ := am_ (Inv.start w17 (fun w2 => Kd.C k34 w2 Ao s0.length s0) (fun w' hb => Kd.C_below HR17.out hb)); clear hR17 hb17) | ((with_reducible refine gate_dst (N := 6) rfl ?_); refine box_event ?hg (N := 6) ?hd (cs := #[.slice none 0 0, .int .i64 0, .string (⟨#[]⟩ : ByteArray), .int .i64 0]) (t := 27) ?hr ?_; (case hd => rfl); (case hg => rfl); (case hr => first | (go_simp; done) | (go_simp; rfl)); intro go hg wo hbox hb; have HI_ := am_ ((HI.out).box hg hbox hb); clear HI; have HI := HI_; clear HI_; have HJ_ := am_ (HJ.out.box hg hbox hb); clear HJ; have HJ := HJ_; clear HJ_; clear hb hbox hg) | ((with_reducible refine gate_store (p := 6) (v := (.tmp 17)) (t := 27) rfl ?_); go_must (refine wpList_store_row rfl 27 _ _ rfl go (#[.slice Ao s0.length co, .int .i64 s1, .string s2, .int .i64 s3]) rfl qz11_ 27 (#[.slice none 0 0, .int .i64 0, .string (⟨#[]⟩ : ByteArray), .int .i64 0]) (Inv.blk0 (HI.out)) (by kernel_rfl) (by rfl) (by first | rfl | simp [Value.oneCell']) ?_; have HI_ := am_ (Inv.put0 (HI.out) (#[.slice Ao s0.length co, .int .i64 s1, .string s2, .int .i64 s3])); clear HI; have HI := HI_; clear HI_; have HJ_ := am_ (Inv.put0 (HJ.out) (#[.slice Ao s0.length co, .int .i64 s1, .string s2, .int .i64 s3])); clear HJ; have HJ := HJ_; clear HJ_; generalize World.setRow _ go (#[.slice Ao s0.length co, .int .i64 s1, .string s2, .int .i64 s3]) = w6 at HI HJ ⊢)) | ((with_reducible refine gate_dst (N := 19) rfl ?_); obtain ⟨vc, wc, hcv, HI_⟩ := HI.out.conv_ev HST.out; obtain ⟨A9', c9', wc', hcv', _, hb9⟩ := conv_bytes w6 a1 HST.out; refine Kd.event_run rfl (v := vc) (w1 := wc) qz18_ ?_; rw [hcv] at hcv'; injection hcv' with e1 e2; subst e2; clear HI; have HI := am_ HI_; clear HI_ hcv e1; have HJ_ := am_ (HJ.out.grow hb9); clear HJ; have HJ := HJ_; clear HJ_; obtain ⟨A9, c9, eq9, hc9, hC9⟩ := HI.out.now.1; subst eq9; have HC9 := am_ hC9; have HL9 := am_ hc9; clear hb9 hC9 hc9) | (go_at_call 49; (refine (impl_Source_absorb.calls0 go s0 s1 s2 s3 A9 c9 (nums_ a1) q1 q2 q3 {w17 with drawn := codeA Ao co} wc ⟨Ao, co, HJ.out.blk0, ⟨HJ.out.ge0, rfl⟩, HR17.out⟩ ⟨HJ.out.below.os, HJ.out.below.tape, HJ.out.below.output, HJ.out.below.size, HJ.out.below.block⟩ (fun W_ hk => absorb_read (HI.out.factsKeep hk).1) HL9.out HAB.out).mono ?_); rintro e wd ⟨rfl, ⟨Aq_, cq_, hbq, ⟨_, hdq⟩, _⟩, hBq, hkq⟩; obtain ⟨e1, e2⟩ := codeA_inj hdq; subst e1 e2; have HI_ := am_ (Inv.putKeep (wb := {w17 with drawn := codeA Ao co}) HI.out ⟨HJ.out.below.os, HJ.out.below.tape, HJ.out.below.output, HJ.out.below.size, HJ.out.below.block⟩ hBq hkq hbq); clear HI; have HI := HI_; clear HI_; clear HJ HC9 HL9 HAB hbq hdq hBq hkq) | ((with_reducible refine gate_dst (N := 21) rfl ?_); go_must (refine wpList_load_row rfl 27 _ rfl go rfl 27 (#[.slice Ao s0.length co, .int .i64 q1, .string q2, .int .i64 q3]) (0, 0) _ (HI.out.blk0) hu27 rfl (by kernel_rfl) ?_)) | ((with_reducible refine gate_store (p := 4) (v := (.tmp 21)) (t := 27) rfl ?_); go_must (refine wpList_store_row rfl 27 _ _ rfl gr (#[.slice Ao s0.length co, .int .i64 q1, .string q2, .int .i64 q3]) rfl qz11_ 27 (#[.slice none 0 0, .int .i64 0, .string (⟨#[]⟩ : ByteArray), .int .i64 0]) (Inv.blk0 (HI.out.front2)) (by kernel_rfl) (by rfl) (by first | rfl | simp [Value.oneCell']) ?_; have HI_ := am_ (Inv.put0 (HI.out.front2) (#[.slice Ao s0.length co, .int .i64 q1, .string q2, .int .i64 q3])); clear HI; have HI := HI_; clear HI_; generalize World.setRow _ gr (#[.slice Ao s0.length co, .int .i64 q1, .string q2, .int .i64 q3]) = w9 at HI ⊢)))
   refine bodyPost_ret (results_ct rfl _ _ gr 27 #[.slice Ao s0.length co, .int .i64 q1, .string q2, .int .i64 q3] (0, 0) _ rfl HI.out.blk0 hu27 rfl (by kernel_rfl)) rfl ?_
   exact ⟨_, rfl, Kd.R_mono (HI.out.get 2 rfl) (fun _ _ => trivial), HI.out.below⟩

def impl_modulo.l0 : Nat → Int → List Int → Int → Int → Option (Int)
 | 0, _, _, _, _ => none
 | k + 1, x3, x6, x7, x8 => if x8 < x7 then (if 0 ≤ x8 then (if x8 < (x6.length : Int) then (impl_modulo.l0 k (Go.bits .or .u64 (IntKind.u64.wrap (x3 * 256)) (IntKind.u64.wrap (rd x6 x8))) x6 x7 (wrap64 (x8 + 1))) else (none)) else (none)) else (some (wrap64 (Int.tmod x3 2130706433)))
def impl_modulo.f (k : Nat) (l0 : List Int) : Option (Int) := impl_modulo.l0 k 0 l0 (l0.length : Int) 0
theorem impl_modulo.mono_l : ∀ k, (∀ y0 y1 y2 y3, LeO (impl_modulo.l0 k y0 y1 y2 y3) (impl_modulo.l0 (k + 1) y0 y1 y2 y3))
 | 0 => fun _ _ _ _ r h => by simp [impl_modulo.l0] at h
 | k + 1 => by
  have ih0 := impl_modulo.mono_l k
  ·
   intro y0 y1 y2 y3
   unfold impl_modulo.l0
   repeat' first
   | (with_reducible exact ih0 _ _ _ _)
   | (with_reducible exact LeO.refl _)
   | (with_reducible exact LeO.none _)
   | (with_reducible refine LeO.ite ?_ ?_)
   | (with_reducible refine LeO.bind ?_ (fun _ => ?_))
   | exact ih0 _ _ _ _
   | exact LeO.none _
   | refine LeO.ite ?_ ?_
   | refine LeO.bind ?_ (fun _ => ?_)
theorem impl_modulo.mono : ∀ a0 k, LeO (impl_modulo.f k a0) (impl_modulo.f (k + 1) a0) := by
 intro a0 k
 have ih0 := impl_modulo.mono_l k
 unfold impl_modulo.f
 repeat' first
   | (with_reducible exact ih0 _ _ _ _)
   | (with_reducible exact LeO.refl _)
   | (with_reducible exact LeO.none _)
   | (with_reducible refine LeO.ite ?_ ?_)
   | (with_reducible refine LeO.bind ?_ (fun _ => ?_))
   | exact ih0 _ _ _ _
   | exact LeO.none _
   | refine LeO.ite ?_ ?_
   | refine LeO.bind ?_ (fun _ => ?_)
set_option maxHeartbeats 8000000 in
set_option maxRecDepth 100000 in
theorem impl_modulo.calls (k : Nat) (A0 : Option Addr) (c0 : Nat) (l0 : List Int) (r : Int) (w : World) (hr0 : Kd.C (Kd.int .u8) w A0 l0.length l0) (hc0 : l0.length ≤ c0) (h : impl_modulo.f k l0 = some r) :
  Calls Try.prog 155 #[.slice A0 l0.length c0] w fun e w' => e = .returned (.int .i64 r) ∧ Drawn0 w w' := by
 have HR0 := am_ hr0
 have HC0 := am_ hc0
 clear hr0 hc0
 have H : (impl_modulo.l0 k 0 l0 (l0.length : Int) 0) = some r := h
 clear h
 have H' := am_ H
 clear H
 go_enter Try.func155, Try.ntmps155
 go_wp2
 go_loopg [3, 8] k (fun kq v3 v8 w' => ∃ (x3_1 : Int) (x8_1 : Int), v3 = .int .u64 x3_1 ∧ v8 = .int .i64 x8_1 ∧ Aside0 (impl_modulo.l0 kq x3_1 l0 (l0.length : Int) x8_1 = some r) ∧ Aside0 (kq ≤ k) ∧ Drawn0 w w')
 case atStart => exact ⟨(0), (0), qz0_, qz0_, H', ⟨Nat.le_refl _⟩, by repeat (first | exact Drawn0.refl _ | apply Drawn0.step)⟩
 case round =>
  clear H'
  try clear c1
  obtain ⟨x3_1, x8_1, rfl, rfl, HA, HK1, ⟨m1, rfl⟩⟩ := hrel
  cases gk with
  | zero => exact absurd HA.out (by simp [impl_modulo.l0])
  | succ k1 =>
   have H := HA.out
   clear HA
   simp only [impl_modulo.l0] at H
   by_cases c2 : x8_1 < (l0.length : Int)
   ·
    rw [if_pos c2] at H
    have c2b0 : decide (x8_1 < (l0.length : Int)) = true := decide_eq_true c2
    clear c2
    by_cases c3 : 0 ≤ x8_1
    ·
     rw [if_pos c3] at H
     have c3b0 : decide (0 ≤ x8_1) = true := decide_eq_true c3
     clear c3
     by_cases c4 : x8_1 < (l0.length : Int)
     ·
      rw [if_pos c4] at H
      have c4b0 : decide (x8_1 < (l0.length : Int)) = true := decide_eq_true c4
      clear c4
      have H' := am_ H
      clear H
      have p101 : 0 ≤ (x8_1 : Int) := of_decide_eq_true (by first | (with_reducible assumption) | assumption)
      have q101 : x8_1 < (l0.length : Int) := of_decide_eq_true (by first | (with_reducible assumption) | assumption)
      obtain ⟨ad101, e101, hx101_0⟩ := Kd.at_int HR0.out x8_1 p101 q101
      cases e101
      replace p101 := eq_true p101
      replace q101 := eq_true q101
      go_wp2
      go_roundg k1
      case measure => have := HK1.out; omega
      case rel => exact ⟨(Go.bits .or .u64 (IntKind.u64.wrap (x3_1 * 256)) (IntKind.u64.wrap (rd l0 x8_1))), (wrap64 (x8_1 + 1)), qz0_, qz0_, H', ⟨(by have := HK1.out; omega)⟩, by repeat (first | exact Drawn0.refl _ | apply Drawn0.step)⟩
     ·
      rw [if_neg c4] at H
      exact absurd H (by simp)
    ·
     rw [if_neg c3] at H
     exact absurd H (by simp)
   ·
    rw [if_neg c2] at H
    have c2b0 : decide (x8_1 < (l0.length : Int)) = false := decide_eq_false c2
    clear c2
    obtain rfl := Option.some.inj H
    go_wp2
    go_ret
    exact ⟨qz0_, qz1_⟩

end Go.Proofs.Ytgookagndlfehaa.PT
end
section
/- l03Lanes: a text's bytes as words. -/
namespace Go.Proofs.Ytgookagndlfehaa.PT
open Go.RowKit Go.Proofs.YtgookagndlfehaaW.PrintWords Go.Proofs.YtgookagndlfehaaW.PrintLast Go.Proofs.YtgookagndlfehaaW.PrintMore
set_option linter.unusedVariables false
set_option linter.unusedSimpArgs false
theorem index_text {ts : TypeId} (t : ByteArray) (hu : Try.prog.underlying ts = some .string) (j : Nat) (hj : j < t.size) (W : World) : (Instr.index ts (.string t) (.int .i64 (j : Int))).run Try.prog W = .ok (.int .u8 (rd (nums_ t) (j : Int))) W := by
 have hu2 := run_underlying (P := Try.prog) hu
 have hlt : j < t.data.toList.length := by rw [Array.length_toList]; exact hj
 have e : rd (nums_ t) (j : Int) = ((t.data.toList.getD j 0).toNat : Int) := nums_get t j
 rw [e]
 simp [Instr.index, asIntOf, hu2, hj, List.getD, hlt]
 rfl
set_option maxHeartbeats 8000000 in
set_option maxRecDepth 100000 in
theorem spec_l03Lanes.calls (t : ByteArray) (w : World) (ht : t.size ≤ 200) :
  Calls Try.prog 128 #[.string t] w fun e w' => e = .returned (.agg (uarr .u64 (lanes_ (nums_ t)))) ∧ Below w.heap.size w w' := by
 have HLEN := am_ ht
 have hlx := nums_length t
 have HX := am_ hlx
 have HI := am_ (Inv.start w (fun _ => True) (fun _ _ => trivial))
 have hu133 := Try.underlying133
 clear ht hlx
 go_enter Try.func128, Try.ntmps128
 go_wp2_with (first | ((with_reducible refine gate_dst (N := 2) rfl ?_); refine box_event ?hg (N := 2) ?hd (cs := uarr .u64 z25) (t := 133) ?hr ?_; (case hd => rfl); (case hg => rfl); (case hr => first | (go_simp; done) | (go_simp; rfl)); intro g2 hg w2 hbox hb; have HI_ := am_ ((HI.out).box hg hbox hb); clear HI; have HI := HI_; clear HI_; clear hb hbox hg) | ((with_reducible refine gate_dst (N := 3) rfl ?_); refine box_event ?hg (N := 3) ?hd (cs := uarr .u64 z25) (t := 133) ?hr ?_; (case hd => rfl); (case hg => rfl); (case hr => first | (go_simp; done) | (go_simp; rfl)); intro g3 hg w3 hbox hb; have HI_ := am_ ((HI.out).box hg hbox hb); clear HI; have HI := HI_; clear HI_; clear hb hbox hg) | ((with_reducible refine gate_store (p := 3) (v := .tmp 5) (t := 133) rfl ?_); go_must (refine wpList_store_row rfl 133 _ _ rfl g3 (uarr .u64 z25) rfl qz11_ 133 (uarr .u64 z25) (Inv.blk0 (HI.out)) (by kernel_rfl) (by rfl) (uarr_one _ _) ?_; have HI_ := am_ (Inv.put0 (HI.out) (uarr .u64 z25)); clear HI; have HI := HI_; clear HI_; generalize World.setRow _ g3 (uarr .u64 z25) = w4 at HI ⊢)))
 go_loopg [4] t.size (fun kq v4 w' => ∃ (j : Nat) (out : List Int), v4 = .int .i64 j ∧ Aside0 (j + kq = t.size) ∧ Aside0 (iter (laneStep (nums_ t)) kq j out = lanes_ (nums_ t)) ∧ Aside0 (out.length = 25) ∧ Aside0 (Inv w NoB w' [blk g3 133 (uarr .u64 out), blk g2 133 (uarr .u64 z25)] (fun _ => True)))
 case atStart => exact ⟨0, z25, rfl, ⟨(by omega)⟩, ⟨(by unfold lanes_; rw [HX.out])⟩, ⟨rfl⟩, HI⟩
 case round =>
  clear HI
  obtain ⟨j, out, rfl, HJ, HR, HO, HI⟩ := hrel
  have hj := HJ.out
  cases gk with
  | zero =>
   have c1 : decide ((j : Int) < (t.size : Int)) = false := decide_eq_false (by omega)
   have c2 : decide (j < t.size) = false := decide_eq_false (by omega)
   have hi : out = lanes_ (nums_ t) := HR.out
   subst hi
   clear HR hj
   go_wp2_with (first | ((with_reducible refine gate_dst (N := 27) rfl ?_); go_must (refine wpList_load_row rfl 133 _ rfl g3 rfl 133 (uarr .u64 (lanes_ (nums_ t))) (0, 0) _ (HI.out.blk0) hu133 rfl (by rw [uarr_size, lanes_length]; kernel_rfl) ?_)) | ((with_reducible refine gate_store (p := 2) (v := .tmp 27) (t := 133) rfl ?_); go_must (refine wpList_store_row rfl 133 _ _ rfl g2 (uarr .u64 (lanes_ (nums_ t))) rfl qz11_ 133 (uarr .u64 z25) (Inv.blk0 (HI.out.swap)) (by rw [uarr_size, lanes_length]; kernel_rfl) (by rw [uarr_size, uarr_size, lanes_length]; rfl) (uarr_one _ _) ?_; have HI_ := am_ (Inv.put0 (HI.out.swap) (uarr .u64 (lanes_ (nums_ t)))); clear HI; have HI := HI_; clear HI_; generalize World.setRow _ g2 (uarr .u64 (lanes_ (nums_ t))) = w5 at HI ⊢)))
   simp only [Act.put, List.setIfInBounds_toArray, List.set_cons_zero, List.set_cons_succ]
   refine bodyPost_ret (v := .agg (uarr .u64 (lanes_ (nums_ t)))) ?hres rfl ?_
   case hres => exact results_cell_row (fn := Try.f128) (p := 2) rfl _ _ g2 133 (uarr .u64 (lanes_ (nums_ t))) (0, 0) _ (by first | rfl | (simp; done)) HI.out.blk0 hu133 rfl (by rw [uarr_size, lanes_length]; kernel_rfl)
   exact ⟨rfl, HI.out.below⟩
  | succ k1 =>
   have hl := HLEN.out
   have c1 : decide ((j : Int) < (t.size : Int)) = true := decide_eq_true (by omega)
   have c2 : decide (j < t.size) = true := decide_eq_true (by omega)
   have p5 : 0 ≤ (j : Int) := by omega
   have hix := index_text t Try.underlying9 j (by omega)
   have ho := HO.out
   obtain ⟨q, hq⟩ : ∃ q : Nat, j / 8 = q := ⟨_, rfl⟩
   obtain ⟨m, hm⟩ : ∃ m : Nat, 8 * (j % 8) = m := ⟨_, rfl⟩
   have hs : wr.cell? ⟨g3, q, none⟩ = some (.int .u64 (out.getD q 0)) := row_cell HI.out.blk0 (by omega)
   have hfs := blk_frozen HI.out.blk0 q
   have e1 : wrap64 ((j : Int) / 8) = (q : Int) := by unfold wrap64; omega
   have e2 : wrap64 (8 * ((j : Int) % 8)) = (m : Int) := by unfold wrap64; omega
   have e3 : wrap64 (8 * ((j : Int).tmod 8)) = (m : Int) := by rw [Int.tmod_eq_emod_of_nonneg p5]; exact e2
   have qq : ((q : Int) < 25) = True := eq_true (by omega)
   have qn : (q < 25) = True := eq_true (by omega)
   have e4 : IntKind.u64.wrap (m : Int) = (m : Int) := by rw [IntKind.wrap_u64]; omega
   have HQ := am_ hq
   have HM := am_ hm
   clear hq hm ho hl hj
   go_wp2
   generalize hji0 : rd (nums_ t) ↑j = b at hix ⊢
   refine start_ (n := 16) (S := fun w' => w'.cell? ⟨g3, q, none⟩ = some (.int .u64 (out.getD q 0))) (ds := [15]) #[false, false, false, false, false, false, false, false, false, false, false, false, false, false, false, false] (by kernel_rfl) rfl rfl hs (fun hHeld => ?_)
   refine pure_ (i := 0) (N := some 12) (v := ?_) (a' := ?_) #[true, false, false, false, false, false, false, false, false, false, false, false, false, false, false, false] rfl rfl (by kernel_rfl) (fun _ _ _ h => h) (Or.inl ⟨(by rfl), ?_⟩) ?_ ?_
   rotate_left
   ·
    intro w'
    go_simp
    with_reducible rfl
   rotate_left
   ·
    exact ap_
   refine pure_ (i := 1) (N := some 13) (v := ?_) (a' := ?_) #[true, true, false, false, false, false, false, false, false, false, false, false, false, false, false, false] rfl rfl (by kernel_rfl) (fun _ _ _ h => h) (Or.inl ⟨(by rfl), ?_⟩) ?_ ?_
   rotate_left
   ·
    intro w'
    go_simp
    with_reducible rfl
   rotate_left
   ·
    exact ap_
   refine pure_ (i := 2) (N := some 14) (v := ?_) (a' := ?_) #[true, true, true, false, false, false, false, false, false, false, false, false, false, false, false, false] rfl rfl (by kernel_rfl) (fun _ _ _ h => h) (Or.inl ⟨(by rfl), ?_⟩) ?_ ?_
   rotate_left
   ·
    intro w'
    go_simp
    with_reducible rfl
   rotate_left
   ·
    exact ap_
   refine take_ (i := 3) (N := some 15) (v := ?_) (a' := ?_) #[true, true, true, true, false, false, false, false, false, false, false, false, false, false, false, false] rfl rfl (by kernel_rfl) (fun _ _ _ h => h) (Or.inl ⟨(by rfl), ?_⟩) hHeld ?_ ?_
   rotate_left
   ·
    rintro w' s0
    go_simp
    with_reducible rfl
   rotate_left
   ·
    exact ap_
   refine pure_ (i := 4) (N := some 16) (v := ?_) (a' := ?_) #[true, true, true, true, true, false, false, false, false, false, false, false, false, false, false, false] rfl rfl (by kernel_rfl) (fun _ _ _ h => h) (Or.inl ⟨(by rfl), ?_⟩) ?_ ?_
   rotate_left
   ·
    intro w'
    go_simp
    with_reducible rfl
   rotate_left
   ·
    exact ap_
   refine pure_ (i := 5) (N := some 17) (v := ?_) (a' := ?_) #[true, true, true, true, true, true, false, false, false, false, false, false, false, false, false, false] rfl rfl (by kernel_rfl) (fun _ _ _ h => h) (Or.inl ⟨(by rfl), ?_⟩) ?_ ?_
   rotate_left
   ·
    intro w'
    go_simp
    with_reducible rfl
   rotate_left
   ·
    exact ap_
   refine pure_ (i := 6) (N := some 18) (v := ?_) (a' := ?_) #[true, true, true, true, true, true, true, false, false, false, false, false, false, false, false, false] rfl rfl (by kernel_rfl) (fun _ _ _ h => h) (Or.inl ⟨(by rfl), ?_⟩) ?_ ?_
   rotate_left
   ·
    intro w'
    go_simp
    with_reducible rfl
   rotate_left
   ·
    exact ap_
   refine pure_ (i := 7) (N := some 19) (v := ?_) (a' := ?_) #[true, true, true, true, true, true, true, true, false, false, false, false, false, false, false, false] rfl rfl (by kernel_rfl) (fun _ _ _ h => h) (Or.inl ⟨(by rfl), ?_⟩) ?_ ?_
   rotate_left
   ·
    intro w'
    go_simp
    with_reducible rfl
   rotate_left
   ·
    exact ap_
   refine pure_ (i := 8) (N := some 20) (v := ?_) (a' := ?_) #[true, true, true, true, true, true, true, true, true, false, false, false, false, false, false, false] rfl rfl (by kernel_rfl) (fun _ _ _ h => h) (Or.inl ⟨(by rfl), ?_⟩) ?_ ?_
   rotate_left
   ·
    intro w'
    go_simp
    with_reducible rfl
   rotate_left
   ·
    exact ap_
   refine pure_ (i := 9) (N := some 21) (v := ?_) (a' := ?_) #[true, true, true, true, true, true, true, true, true, true, false, false, false, false, false, false] rfl rfl (by kernel_rfl) (fun _ _ _ h => h) (Or.inl ⟨(by rfl), ?_⟩) ?_ ?_
   rotate_left
   ·
    intro w'
    go_simp
    with_reducible rfl
   rotate_left
   ·
    exact ap_
   refine pure_ (i := 10) (N := some 22) (v := ?_) (a' := ?_) #[true, true, true, true, true, true, true, true, true, true, true, false, false, false, false, false] rfl rfl (by kernel_rfl) (fun _ _ _ h => h) (Or.inl ⟨(by rfl), ?_⟩) ?_ ?_
   rotate_left
   ·
    intro w'
    go_simp
    with_reducible rfl
   rotate_left
   ·
    exact ap_
   refine pure_ (i := 11) (N := some 23) (v := ?_) (a' := ?_) #[true, true, true, true, true, true, true, true, true, true, true, true, false, false, false, false] rfl rfl (by kernel_rfl) (fun _ _ _ h => h) (Or.inl ⟨(by rfl), ?_⟩) ?_ ?_
   rotate_left
   ·
    intro w'
    go_simp
    with_reducible rfl
   rotate_left
   ·
    exact ap_
   refine pure_ (i := 12) (N := some 24) (v := ?_) (a' := ?_) #[true, true, true, true, true, true, true, true, true, true, true, true, true, false, false, false] rfl rfl (by kernel_rfl) (fun _ _ _ h => h) (Or.inl ⟨(by rfl), ?_⟩) ?_ ?_
   rotate_left
   ·
    intro w'
    go_simp
    with_reducible rfl
   rotate_left
   ·
    exact ap_
   refine pure_ (i := 13) (N := some 25) (v := ?_) (a' := ?_) #[true, true, true, true, true, true, true, true, true, true, true, true, true, true, false, false] rfl rfl (by kernel_rfl) (fun _ _ _ h => h) (Or.inl ⟨(by rfl), ?_⟩) ?_ ?_
   rotate_left
   ·
    intro w'
    go_simp
    with_reducible rfl
   rotate_left
   ·
    exact ap_
   refine pure_ (i := 14) (N := some 26) (v := ?_) (a' := ?_) #[true, true, true, true, true, true, true, true, true, true, true, true, true, true, true, false] rfl rfl (by kernel_rfl) (fun _ _ _ h => h) (Or.inl ⟨(by rfl), ?_⟩) ?_ ?_
   rotate_left
   ·
    intro w'
    go_simp
    with_reducible rfl
   rotate_left
   ·
    exact ap_
   refine last_ (i := 15) (N := none) #[true, true, true, true, true, true, true, true, true, true, true, true, true, true, true, true] rfl rfl (by kernel_rfl) (by decide) (fun K hK => ?_)
   refine skip_ (w1 := ?_) (by rfl) rfl ?_ ?_
   rotate_left
   ·
    go_simp
    rfl
   refine hK.out _ _ ?_
   clear hK K
   refine done_ (by kernel_rfl) ?_
   have HI2 := am_ ((HI.out.set0 q (.int .u64 (Go.bits .or .u64 (out.getD q 0) (IntKind.u64.wrap (IntKind.u64.wrap b * 2 ^ min m 64))))).drew)
   rw [uarr_put] at HI2
   have hstep : laneStep (nums_ t) j out = out.set q (Go.bits .or .u64 (out.getD q 0) (IntKind.u64.wrap (IntKind.u64.wrap b * 2 ^ min m 64))) := by unfold laneStep; rw [HQ.out, HM.out, hji0]
   have HR2 := am_ (show iter (laneStep (nums_ t)) k1 (j + 1) (laneStep (nums_ t) j out) = lanes_ (nums_ t) from HR.out)
   have HO2 := am_ (show (laneStep (nums_ t) j out).length = 25 from (laneStep_length (nums_ t) j out).trans HO.out)
   rw [hstep] at HR2 HO2
   clear HI HR HO hs hfs e1 e2 e3 e4 qq qn hstep hix hji0 HQ HM
   generalize out.set q (Go.bits .or .u64 (out.getD q 0) (IntKind.u64.wrap (IntKind.u64.wrap b * 2 ^ min m 64))) = out2 at HI2 HR2 HO2
   try go_wp2
   go_roundg k1
   case measure => omega
   case rel => exact ⟨j + 1, out2, by have := HLEN.out; have := HJ.out; rw [w64_ (by omega) (by omega)]; rfl, ⟨(by have := HJ.out; omega)⟩, HR2, HO2, HI2⟩
end Go.Proofs.Ytgookagndlfehaa.PT
end
section
/- l03Text: words as text. -/
namespace Go.Proofs.Ytgookagndlfehaa.PT
open Go.RowKit Go.Proofs.YtgookagndlfehaaW.PrintWords Go.Proofs.YtgookagndlfehaaW.PrintLast Go.Proofs.YtgookagndlfehaaW.PrintMore
set_option linter.unusedVariables false
set_option linter.unusedSimpArgs false
theorem text_take (ls : List Int) : ∀ n k j x, n ≤ k → (iter (textStep ls) k j x).take (x.length + n) = iter (textStep ls) n j x
 | 0, k, j, x, _ => by
  rw [show iter (textStep ls) 0 j x = x from rfl, Nat.add_zero]
  induction k generalizing j x with
  | zero => exact List.take_length
  | succ k ih =>
   have h := ih (j + 1) (textStep ls j x) (Nat.zero_le _)
   rw [iter_succ]
   have e : x = (textStep ls j x).take x.length := by unfold textStep; simp
   have h2 := congrArg (List.take x.length) h
   rw [List.take_take, Nat.min_eq_left (by unfold textStep; simp)] at h2
   rw [h2, ← e]
 | n + 1, 0, j, x, h => by omega
 | n + 1, k + 1, j, x, h => by
  rw [iter_succ, iter_succ, ← text_take ls n k (j + 1) (textStep ls j x) (by omega)]
  congr 1
  unfold textStep
  simp
  omega
set_option maxHeartbeats 8000000 in
set_option maxRecDepth 100000 in
theorem spec_l03Text.calls (ls : List Int) (n : Nat) (w : World) (hls : ls.length = 25) (hn : n ≤ 200) :
  Calls Try.prog 130 #[.agg (uarr .u64 ls), .int .i64 (n : Int)] w fun e w' => e = .returned (.string (strOfNums ((text_ ls).take n))) ∧ Below w.heap.size w w' := by
 have HLEN := am_ hls
 have HN := am_ hn
 have HT := am_ (show iter (textStep ls) n 0 [] = (text_ ls).take n from by unfold text_; rw [← text_take ls n 200 0 [] hn]; simp)
 generalize (text_ ls).take n = tt at HT
 have HI := am_ (Inv.start w (fun _ => True) (fun _ _ => trivial))
 have hu133 := Try.underlying133
 clear hls hn
 go_enter Try.func130, Try.ntmps130
 go_wp2_with (first | ((with_reducible refine gate_dst (N := 2) rfl ?_); refine box_event ?hg (N := 2) ?hd (cs := uarr .u64 ls) (t := 133) ?hr ?_; (case hd => rfl); (case hg => rfl); (case hr => first | (go_simp; done) | (go_simp; rfl)); intro g2 hg w2 hbox hb; have HI_ := am_ ((HI.out).box hg hbox hb); clear HI; have HI := HI_; clear HI_; clear hb hbox hg) | ((with_reducible refine gate_dst (N := 7) rfl ?_); refine Kd.R_lit (Kd.int .u8) (w0 := _) _ 5 ?hg (N := 7) ?hd (xs := ([] : List Int)) (inner := []) (ok := fun _ => True) (okp := fun _ => True) ?hr ?hp (fun _ hk => hk) trivial (Below.refl _ _) (Nat.le_refl _) (by simp) ?_; (case hd => rfl); (case hg => rfl); (case hr => first | (go_simp; done) | (go_simp; rfl)); (case hp => exact (Reps.none _ _)); intro v7 w7 hR hb hg hat; have HI_ := am_ ((HI.out).rowPush hb hR); clear HI; have HI := HI_; clear HI_; clear hR hb hg hat))
 go_loopg [5, 6] n (fun kq v5 v6 w' => ∃ (j : Nat) (out : List Int) (S : Nat → Prop), v6 = .int .i64 j ∧ Aside0 (j + kq = n) ∧ Aside0 (iter (textStep ls) kq j out = tt) ∧ Aside0 (out.length = j) ∧ Aside0 (Inv w NoB w' [row (Kd.int .u8) 5 w.heap.size v5 out S, blk g2 133 (uarr .u64 ls)] (fun _ => True)))
 case atStart => exact ⟨0, [], _, rfl, ⟨(by omega)⟩, HT, ⟨rfl⟩, HI⟩
 case round =>
  clear HI
  obtain ⟨j, out, S, rfl, HJ, HR, HO, HI⟩ := hrel
  have hj := HJ.out
  have hn := HN.out
  cases gk with
  | zero =>
   have c1 : decide ((j : Int) < (n : Int)) = false := decide_eq_false (by omega)
   have c2 : decide (j < n) = false := decide_eq_false (by omega)
   have hi : out = tt := HR.out
   subst hi
   obtain ⟨A, c, rfl, _, hC⟩ := Kd.R_reads HI.out.row0
   have hcv := Kd.C_string (c := c) Try.underlying22 Try.underlying5 Try.underlying9 hC
   clear HR hj hC
   go_wp2
   go_ret
   exact ⟨rfl, HI.out.below⟩
  | succ k1 =>
   have hl := HLEN.out
   have c1 : decide ((j : Int) < (n : Int)) = true := decide_eq_true (by omega)
   have c2 : decide (j < n) = true := decide_eq_true (by omega)
   have p5 : 0 ≤ (j : Int) := by omega
   have hs : wr.cell? ⟨g2, j / 8, none⟩ = some (.int .u64 (ls.getD (j / 8) 0)) := row_cell HI.out.swap.blk0 (by omega)
   have qn : (j / 8 < 25) = True := eq_true (by omega)
   have qi : ((j : Int) / 8 < 25) = True := eq_true (by omega)
   have e4 : IntKind.u64.wrap (8 * ((j : Int) % 8)) = 8 * ((j : Int) % 8) := by rw [IntKind.wrap_u64]; omega
   have HR2 := am_ (show iter (textStep ls) k1 (j + 1) (out ++ [(ls.getD (j / 8) 0 / 2 ^ (8 * (j % 8))) % 256]) = tt from HR.out)
   clear HR hl
   generalize ls.getD (j / 8) 0 = v at hs HR2
   generalize hb : v / 2 ^ (8 * (j % 8)) = b at HR2
   go_wp2_with (first | ((with_reducible refine gate_builtin (b := .append) (xs := #[.tmp 13, .tmp 24]) rfl ?_); at_builtin; refine Kd.R_append (Kd.int .u8) (w0 := _) w.heap.size rfl (.tmp 13) (.tmp 24) 22 5 (.int .u8 0) 1 rfl Try.underlying22 info5 rfl (by decide) (by omega) _ out (b % 256) [.int .u8 (b % 256)] _ (fun _ => False) rfl rfl ?aP (fun _ hk => hk.elim) ?aF (Inv.row0W (HI.out)) (Below.refl _ _) (HI.out).agr.size ?aL ?_; (case aP => exact rfl); (case aF => exact (fun _ hk => .inr hk)); (case aL => have := HO.out; omega); intro v25 w25 hR hb hg hat; have HI_ := am_ ((HI.out).grown0 hb hR (fun _ hk _ => hk) hg); clear HI; have HI := HI_; clear HI_; clear hR hb hg hat))
   go_roundg k1
   case measure => omega
   case rel => exact ⟨j + 1, out ++ [b % 256], _, by first | rfl | go_num, ⟨(by omega)⟩, HR2, ⟨(by have := HO.out; simp; omega)⟩, HI⟩
def spec_l03Turn.f (a0 : Int) (a1 : Int) : Option (Int) := if a1 = 0 then (some a0) else (if 0 ≤ a1 then (if 0 ≤ (IntKind.u64.wrap (64 - a1)) then (some (Go.bits .or .u64 (shl .u64 a0 a1) (shr .u64 a0 (IntKind.u64.wrap (64 - a1))))) else (none)) else (none))
set_option maxHeartbeats 8000000 in
set_option maxRecDepth 100000 in
theorem spec_l03Turn.calls (a0 : Int) (a1 : Int) (r : Int) (w : World) (h : spec_l03Turn.f a0 a1 = some r) :
  Calls Try.prog 162 #[.int .u64 a0, .int .u64 a1] w fun e w' => e = .returned (.int .u64 r) ∧ Drawn0 w w' := by
 have H : (if a1 = 0 then (some a0) else (if 0 ≤ a1 then (if 0 ≤ (IntKind.u64.wrap (64 - a1)) then (some (Go.bits .or .u64 (shl .u64 a0 a1) (shr .u64 a0 (IntKind.u64.wrap (64 - a1))))) else (none)) else (none))) = some r := h
 clear h
 by_cases c3 : a1 = 0
 ·
  rw [if_pos c3] at H
  have c3b0 : (a1 == 0) = true := beq_iff_eq.mpr c3
  have c3b1 : (a1 != 0) = false := bne_eq_false_iff_eq.mpr c3
  clear c3
  obtain rfl := Option.some.inj H
  go_enter Try.func162, Try.ntmps162
  go_wp2
  go_ret
  exact ⟨qz0_, qz1_⟩
 ·
  rw [if_neg c3] at H
  have c3b0 : (a1 == 0) = false := beq_eq_false_iff_ne.mpr c3
  have c3b1 : (a1 != 0) = true := bne_iff_ne.mpr c3
  by_cases c4 : 0 ≤ a1
  ·
   rw [if_pos c4] at H
   have c4b0 := eq_true c4
   have c4b1 : decide (0 ≤ a1) = true := decide_eq_true c4
   clear c4
   obtain ⟨ji5, hji5⟩ : ∃ j_ : Int, (shl .u64 a0 a1) = j_ := ⟨_, rfl⟩
   replace H : (if 0 ≤ (IntKind.u64.wrap (64 - a1)) then (some (Go.bits .or .u64 (ji5) (shr .u64 a0 (IntKind.u64.wrap (64 - a1))))) else (none)) = some r := by first | (rw [hji5] at H; exact H) | (simp only [hji5] at H ⊢; exact H)
   have hji5_ : (IntKind.u64.wrap (a0 * 2 ^ min a1.toNat 64)) = ji5 := hji5
   have hji5z : a1 ≤ 64 → (IntKind.u64.wrap (a0 * 2 ^ a1.toNat)) = ji5 := shl_small hji5
   obtain ⟨ji6, hji6⟩ : ∃ j_ : Int, (IntKind.u64.wrap (64 - a1)) = j_ := ⟨_, rfl⟩
   replace H : (if 0 ≤ (ji6) then (some (Go.bits .or .u64 (ji5) (shr .u64 a0 (ji6)))) else (none)) = some r := by first | (rw [hji6] at H; exact H) | (simp only [hji6] at H ⊢; exact H)
   by_cases c7 : 0 ≤ (ji6)
   ·
    rw [if_pos c7] at H
    have c7b0 := eq_true c7
    have c7b1 : decide (0 ≤ (ji6)) = true := decide_eq_true c7
    clear c7
    obtain ⟨ji8, hji8⟩ : ∃ j_ : Int, (shr .u64 a0 (ji6)) = j_ := ⟨_, rfl⟩
    replace H : (some (Go.bits .or .u64 (ji5) (ji8))) = some r := by first | (rw [hji8] at H; exact H) | (simp only [hji8] at H ⊢; exact H)
    have hji8_ : (a0 / 2 ^ min (ji6).toNat 64) = ji8 := hji8
    have hji8z : (ji6) ≤ 64 → (a0 / 2 ^ (ji6).toNat) = ji8 := shr_small hji8
    obtain rfl := Option.some.inj H
    go_enter Try.func162, Try.ntmps162
    go_wp2
    go_ret
    exact ⟨(by first | rfl | (simp; done) | (simp only [← hji5, ← hji6, ← hji8] <;> (first | rfl | simp)) | (simp [*]; done)), qz1_⟩
   ·
    rw [if_neg c7] at H
    exact absurd H (by simp)
  ·
   rw [if_neg c4] at H
   exact absurd H (by simp)

end Go.Proofs.Ytgookagndlfehaa.PT
end
