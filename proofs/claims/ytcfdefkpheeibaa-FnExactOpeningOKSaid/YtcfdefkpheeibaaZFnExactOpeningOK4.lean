/- Part 4 of the proof of FnExactOpeningOK: what functions compute, shown step by step, and what that says (the claim's last text states the law). -/
import Derived.Test.YtcfdefkpheeibaaProg
import Derived.Test.YtcfdefkpheeibaaWMore
import Derived.Test.YtcfdefkpheeibaaWWords
import Derived.Test.YtcfdefkpheeibaaWLast
import Derived.Test.YtcfdefkpheeibaaWTab
import Derived.Test.YtcfdefkpheeibaaWQPut
import Derived.Test.YtcfdefkpheeibaaWApart
import Derived.Test.YtcfdefkpheeibaaWArr
import Derived.Test.YtcfdefkpheeibaaWZeros
import Derived.Test.YtcfdefkpheeibaaWFoot
import Derived.Test.YtcfdefkpheeibaaWKept
import Derived.Test.YtcfdefkpheeibaaWShare
import Derived.Test.YtcfdefkpheeibaaWN
import Derived.Test.YtcfdefkpheeibaaWRepsOne
import Derived.Test.YtcfdefkpheeibaaWGuard
import Derived.Test.YtcfdefkpheeibaaWNEv
import Derived.Test.YtcfdefkpheeibaaRows
import Derived.JoinedOf
import Derived.WalkKit
import Derived.ProofKit
import Derived.Below
import Derived.Deep.Draws
import Derived.Deep.AppendLies
import Derived.Maps.AppendAt
import Derived.OwnWalk
import Derived.Laws.BytesArg
import Derived.Laws.MakeOwn
import Derived.Laws.OwnMore
import Derived.Deep.OwnRows
import Derived.Tactics
import Derived.Lib.ConvBytes
import Derived.Laws.Slices
import Derived.KernelRfl
import Derived.RowKit3
import Derived.Deep.LoopGhost
import Derived.Deep.QuietTactic
import Derived.BigQuiet
import Derived.WideLaws
import Derived.Deep.DeepCutAuto
import Derived.Deep.CutBlock
import Derived.Deep.RegionHeld3
import Derived.Laws.Rows
import Derived.Lib.AppendStr
import Derived.ArgAppend
import Derived.Laws.IdiomCopy
import Derived.OrdersHeld
import Derived.Laws.BitsLemmas
import Derived.RowKit
import Derived.OpenShut
import Derived.ShutString
import Derived.ChangeOld
import Derived.SizedLaws
import Derived.Deep.Slices
import Derived.ChangeArms
import Derived.Test.YtcfdefkpheeibaaZFnExactOpeningOK3
section
namespace Go.Proofs.Ytcfdefkpheeibaa.PT
open Go.RowKit Go.Proofs.YtcfdefkpheeibaaW.PrintWords Go.Proofs.YtcfdefkpheeibaaW.PrintLast Go.Proofs.YtcfdefkpheeibaaW.PrintMore
attribute [local go_sem] max2_int min2_int max_two min_two max_three min_three max_four min_four   -- for this text's walks alone
set_option linter.unusedVariables false
set_option linter.unusedSimpArgs false

/-! ### laws_eqQueryS: function 46 -/
def laws_eqQueryS.l0 : Nat → List (S67) → List (S67) → Int → Option (Bool)
 | 0, _, _, _ => none
 | k + 1, x0, x1, x5 => if x5 < (x0.length : Int) then (if 0 ≤ x5 then (if x5 < (x1.length : Int) then ((laws_eqQuery.f k ((rd_T67 x0 x5).f0) ((rd_T67 x0 x5).f1) ((rd_T67 x1 x5).f0) ((rd_T67 x1 x5).f1)).bind fun t103 => (if t103 = true then (laws_eqQueryS.l0 k x0 x1 (wrap64 (x5 + 1))) else (some false))) else (none)) else (none)) else (some true)
def laws_eqQueryS.f (k : Nat) (l0 : List (S67)) (l1 : List (S67)) : Option (Bool) := if (l0.length : Int) = (l1.length : Int) then (laws_eqQueryS.l0 k l0 l1 0) else (some false)
theorem laws_eqQueryS.mono_l : ∀ k, (∀ y0 y1 y2, LeO (laws_eqQueryS.l0 k y0 y1 y2) (laws_eqQueryS.l0 (k + 1) y0 y1 y2))
 | 0 => fun _ _ _ r h => by simp [laws_eqQueryS.l0] at h
 | k + 1 => by
  have ih0 := laws_eqQueryS.mono_l k
  ·
   intro y0 y1 y2
   unfold laws_eqQueryS.l0
   repeat' first
   | (with_reducible exact ih0 _ _ _)
   | (with_reducible exact laws_eqQuery.mono _ _ _ _ _)
   | (with_reducible exact LeO.refl _)
   | (with_reducible exact LeO.none _)
   | (with_reducible refine LeO.ite ?_ ?_)
   | (with_reducible refine LeO.bind ?_ (fun _ => ?_))
   | exact ih0 _ _ _
   | exact laws_eqQuery.mono _ _ _ _ _
   | exact LeO.none _
   | refine LeO.ite ?_ ?_
   | refine LeO.bind ?_ (fun _ => ?_)
theorem laws_eqQueryS.mono : ∀ a0 a1 k, LeO (laws_eqQueryS.f k a0 a1) (laws_eqQueryS.f (k + 1) a0 a1) := by
 intro a0 a1 k
 have ih0 := laws_eqQueryS.mono_l k
 unfold laws_eqQueryS.f
 repeat' first
   | (with_reducible exact ih0 _ _ _)
   | (with_reducible exact laws_eqQuery.mono _ _ _ _ _)
   | (with_reducible exact LeO.refl _)
   | (with_reducible exact LeO.none _)
   | (with_reducible refine LeO.ite ?_ ?_)
   | (with_reducible refine LeO.bind ?_ (fun _ => ?_))
   | exact ih0 _ _ _
   | exact laws_eqQuery.mono _ _ _ _ _
   | exact LeO.none _
   | refine LeO.ite ?_ ?_
   | refine LeO.bind ?_ (fun _ => ?_)
def laws_eqQueryS.T6 : Bool × List (List Nat × List Nat) := (true, [([], []), ([], []), ([0, 1], [0, 1]), ([2], [2]), ([], []), ([], []), ([4, 5], [4, 5]), ([6], [6]), ([3, 7], [3, 7]), ([8], [8])])
def laws_eqQueryS.B6 : List Nat := [0, 0, 3, 7, 0, 0, 48, 112, 255, 511]
theorem laws_eqQueryS.tab6 : rtab .any (opsOf Try.f46 6) = laws_eqQueryS.T6 := by kernel_rfl
theorem laws_eqQueryS.bits6 : waitsOk laws_eqQueryS.T6.2 laws_eqQueryS.B6 = true := by kernel_rfl
set_option maxHeartbeats 8000000 in
set_option maxRecDepth 100000 in
theorem laws_eqQueryS.calls (k : Nat) (A0 : Option Addr) (c0 : Nat) (l0 : List (S67)) (A1 : Option Addr) (c1 : Nat) (l1 : List (S67)) (r : Bool) (w : World) (hr0 : Kd.C k67 w A0 l0.length l0) (hc0 : l0.length ≤ c0) (hr1 : Kd.C k67 w A1 l1.length l1) (hc1 : l1.length ≤ c1) (h : laws_eqQueryS.f k l0 l1 = some r) :
  Calls Try.prog 46 #[.slice A0 l0.length c0, .slice A1 l1.length c1] w fun e w' => e = .returned (.bool r) ∧ Below w.heap.size w w' := by
 have hu67 := Try.underlying67
 have HR0 := am_ hr0
 have HC0 := am_ hc0
 clear hr0 hc0
 have HR1 := am_ hr1
 have HC1 := am_ hc1
 clear hr1 hc1
 have HB := am_ (Below.refl w.heap.size w)
 have H : (if (l0.length : Int) = (l1.length : Int) then (laws_eqQueryS.l0 k l0 l1 0) else (some false)) = some r := h
 clear h
 by_cases c3 : (l0.length : Int) = (l1.length : Int)
 ·
  rw [if_pos c3] at H
  have c3b0 : ((l0.length : Int) == (l1.length : Int)) = true := beq_iff_eq.mpr c3
  have c3b1 : ((l0.length : Int) != (l1.length : Int)) = false := bne_eq_false_iff_eq.mpr c3
  have c3b2 : (l0.length == l1.length) = true := by first | simpa using c3 | (simp at c3 ⊢; omega)
  clear c3
  have H' := am_ H
  clear H
  go_enter Try.func46, Try.ntmps46
  go_wp2
  go_loopg [5] k (fun kq v5 w' => ∃ (x5_1 : Int), v5 = .int .i64 x5_1 ∧ Aside0 (laws_eqQueryS.l0 kq l0 l1 x5_1 = some r) ∧ Aside0 (kq ≤ k) ∧ Aside0 (Below w.heap.size w w'))
  case atStart => exact ⟨(0), qz0_, H', ⟨Nat.le_refl _⟩, ⟨qz4_⟩⟩
  case round =>
   clear H'
   try clear c1
   try clear p2
   try clear c3
   try clear c3b0
   try clear c3b1
   try clear c3b2
   obtain ⟨x5_1, rfl, HA, HK1, HB⟩ := hrel
   cases gk with
   | zero => exact absurd HA.out (by simp [laws_eqQueryS.l0])
   | succ k1 =>
    have H := HA.out
    clear HA
    simp only [laws_eqQueryS.l0] at H
    by_cases c4 : x5_1 < (l0.length : Int)
    ·
     rw [if_pos c4] at H
     have c4b0 : decide (x5_1 < (l0.length : Int)) = true := decide_eq_true c4
     clear c4
     by_cases c5 : 0 ≤ x5_1
     ·
      rw [if_pos c5] at H
      have c5b0 : decide (0 ≤ x5_1) = true := decide_eq_true c5
      clear c5
      by_cases c6 : x5_1 < (l1.length : Int)
      ·
       rw [if_pos c6] at H
       have c6b0 : decide (x5_1 < (l1.length : Int)) = true := decide_eq_true c6
       clear c6
       replace H := Option.bind_eq_some_iff.mp H
       obtain ⟨t103, A70, H⟩ := H
       replace H : (if t103 = true then (laws_eqQueryS.l0 k1 l0 l1 (wrap64 (x5_1 + 1))) else (some false)) = some r := H
       have A7 := am_ A70
       clear A70
       by_cases c8 : t103 = true
       ·
        subst c8
        have H1 : (laws_eqQueryS.l0 k1 l0 l1 (wrap64 (x5_1 + 1))) = some r := by rw [if_pos rfl] at H; exact H
        clear H
        have H := H1
        clear H1
        have H' := am_ H
        clear H
        try go_wp2
        have n0_ := am_ (below_drew1 HB.out)
        clear HB
        have HB := n0_
        clear n0_
        have p101 : 0 ≤ (x5_1 : Int) := of_decide_eq_true qz2_
        have q101 : x5_1 < (l0.length : Int) := of_decide_eq_true qz2_
        obtain ⟨ad101, A101_0, c101_0, A101_1, c101_1, e101, hx101_0, hx101_1, hl101_0, hi101_0, hl101_1, hi101_1⟩ := at_T67 HR0.out x5_1 p101 q101
        have hw101_1 := hx101_1
        have hw101_0 := hx101_0
        cases e101
        replace hx101_0 := (HB.out.cell (World.block_lt_of_cell? w _ hx101_0)).trans hx101_0
        replace hx101_1 := (HB.out.cell (World.block_lt_of_cell? w _ hx101_1)).trans hx101_1
        have HR101_0 := am_ hi101_0
        have HC101_0 := am_ hl101_0
        clear hi101_0 hl101_0
        have HR101_1 := am_ hi101_1
        have HC101_1 := am_ hl101_1
        clear hi101_1 hl101_1
        replace p101 := eq_true p101
        replace q101 := eq_true q101
        have p102 : 0 ≤ (x5_1 : Int) := of_decide_eq_true qz2_
        have q102 : x5_1 < (l1.length : Int) := of_decide_eq_true qz2_
        obtain ⟨ad102, A102_0, c102_0, A102_1, c102_1, e102, hx102_0, hx102_1, hl102_0, hi102_0, hl102_1, hi102_1⟩ := at_T67 HR1.out x5_1 p102 q102
        have hw102_1 := hx102_1
        have hw102_0 := hx102_0
        cases e102
        replace hx102_0 := (HB.out.cell (World.block_lt_of_cell? w _ hx102_0)).trans hx102_0
        replace hx102_1 := (HB.out.cell (World.block_lt_of_cell? w _ hx102_1)).trans hx102_1
        have HR102_0 := am_ hi102_0
        have HC102_0 := am_ hl102_0
        clear hi102_0 hl102_0
        have HR102_1 := am_ hi102_1
        have HC102_1 := am_ hl102_1
        clear hi102_1 hl102_1
        replace p102 := eq_true p102
        replace q102 := eq_true q102
        refine start_ (n := 10) (S := fun w' => w'.cell? (ad101.add ((x5_1).toNat * 2)) = some (.slice A101_0 ((rd_T67 l0 x5_1).f0).length c101_0) ∧ w'.cell? ⟨(ad101.add ((x5_1).toNat * 2)).block, (ad101.add ((x5_1).toNat * 2)).off + 1, none⟩ = some (.slice A101_1 ((rd_T67 l0 x5_1).f1).length c101_1) ∧ w'.cell? (ad102.add ((x5_1).toNat * 2)) = some (.slice A102_0 ((rd_T67 l1 x5_1).f0).length c102_0) ∧ w'.cell? ⟨(ad102.add ((x5_1).toNat * 2)).block, (ad102.add ((x5_1).toNat * 2)).off + 1, none⟩ = some (.slice A102_1 ((rd_T67 l1 x5_1).f1).length c102_1)) (ds := []) #[false, false, false, false, false, false, false, false, false, false] (by kernel_rfl) rfl rfl ⟨((HB.out.cell (World.block_lt_of_cell? w _ hw101_0)).trans hw101_0), ((HB.out.cell (World.block_lt_of_cell? w _ hw101_1)).trans hw101_1), ((HB.out.cell (World.block_lt_of_cell? w _ hw102_0)).trans hw102_0), ((HB.out.cell (World.block_lt_of_cell? w _ hw102_1)).trans hw102_1)⟩ (fun hHeld => ?_); refine with_tabW laws_eqQueryS.tab6 laws_eqQueryS.bits6 (fun HT_ HW_ => ?_)
        generalize wr.drew = w9 at HB HR101_0 HR101_1 HR102_0 HR102_1 hx101_0 hx101_1 hx102_0 hx102_1 hHeld ⊢
        refine pure_ (i := 0) (N := some 17) (v := ?_) (a' := ?_) #[true, false, false, false, false, false, false, false, false, false] rfl rfl (any_of HT_.out (by kernel_rfl)) (fun _ _ _ h => h) (Or.inl ⟨(by rfl), ?_⟩) ?_ ?_
        rotate_left
        ·
         intro w'
         go_simp
         with_reducible rfl
        rotate_left
        ·
         simp only [Act.put, List.setIfInBounds_toArray, List.set_cons_zero, List.set_cons_succ, i64_w, i32_w]
         rfl
        refine pure_ (i := 1) (N := some 18) (v := ?_) (a' := ?_) #[true, true, false, false, false, false, false, false, false, false] rfl rfl (any_of HT_.out (by kernel_rfl)) (fun _ _ _ h => h) (Or.inl ⟨(by rfl), ?_⟩) ?_ ?_
        rotate_left
        ·
         intro w'
         go_simp
         with_reducible rfl
        rotate_left
        ·
         simp only [Act.put, List.setIfInBounds_toArray, List.set_cons_zero, List.set_cons_succ, i64_w, i32_w]
         rfl
        refine pure_ (i := 2) (N := some 19) (v := ?_) (a' := ?_) #[true, true, true, false, false, false, false, false, false, false] rfl rfl (any_of HT_.out (by kernel_rfl)) (fun _ _ _ h => h) (Or.inl ⟨(by rfl), ?_⟩) ?_ ?_
        rotate_left
        ·
         intro w'
         go_simp
         with_reducible rfl
        rotate_left
        ·
         simp only [Act.put, List.setIfInBounds_toArray, List.set_cons_zero, List.set_cons_succ, i64_w, i32_w]
         rfl
        refine pure_ (i := 4) (N := some 21) (v := ?_) (a' := ?_) #[true, true, true, false, true, false, false, false, false, false] rfl rfl (any_of HT_.out (by kernel_rfl)) (fun _ _ _ h => h) (Or.inl ⟨(by rfl), ?_⟩) ?_ ?_
        rotate_left
        ·
         intro w'
         go_simp
         with_reducible rfl
        rotate_left
        ·
         simp only [Act.put, List.setIfInBounds_toArray, List.set_cons_zero, List.set_cons_succ, i64_w, i32_w]
         rfl
        refine pure_ (i := 5) (N := some 22) (v := ?_) (a' := ?_) #[true, true, true, false, true, true, false, false, false, false] rfl rfl (any_of HT_.out (by kernel_rfl)) (fun _ _ _ h => h) (Or.inl ⟨(by rfl), ?_⟩) ?_ ?_
        rotate_left
        ·
         intro w'
         go_simp
         with_reducible rfl
        rotate_left
        ·
         simp only [Act.put, List.setIfInBounds_toArray, List.set_cons_zero, List.set_cons_succ, i64_w, i32_w]
         rfl
        refine pure_ (i := 6) (N := some 23) (v := ?_) (a' := ?_) #[true, true, true, false, true, true, true, false, false, false] rfl rfl (any_of HT_.out (by kernel_rfl)) (fun _ _ _ h => h) (Or.inl ⟨(by rfl), ?_⟩) ?_ ?_
        rotate_left
        ·
         intro w'
         go_simp
         with_reducible rfl
        rotate_left
        ·
         simp only [Act.put, List.setIfInBounds_toArray, List.set_cons_zero, List.set_cons_succ, i64_w, i32_w]
         rfl
        refine take_ (i := 3) (N := some 20) (v := ?_) (a' := ?_) #[true, true, true, true, true, true, true, false, false, false] rfl rfl (take_ofW HT_.out HW_.out (by kernel_rfl)) (fun _ _ _ h => h) (Or.inl ⟨(by rfl), ?_⟩) hHeld ?_ ?_
        rotate_left
        ·
         rintro w' ⟨s0, s1, s2, s3⟩
         go_simp
         with_reducible rfl
        rotate_left
        ·
         simp only [Act.put, List.setIfInBounds_toArray, List.set_cons_zero, List.set_cons_succ, i64_w, i32_w]
         rfl
        refine take_ (i := 7) (N := some 24) (v := ?_) (a' := ?_) #[true, true, true, true, true, true, true, true, false, false] rfl rfl (take_ofW HT_.out HW_.out (by kernel_rfl)) (fun _ _ _ h => h) (Or.inl ⟨(by rfl), ?_⟩) hHeld ?_ ?_
        rotate_left
        ·
         rintro w' ⟨s0, s1, s2, s3⟩
         go_simp
         with_reducible rfl
        rotate_left
        ·
         simp only [Act.put, List.setIfInBounds_toArray, List.set_cons_zero, List.set_cons_succ, i64_w, i32_w]
         rfl
        refine one_ (i := 8) (N := some 25) #[true, true, true, true, true, true, true, true, true, false] rfl rfl (one_of HT_.out (by kernel_rfl)) (by decide) (fun K hK => ?_)
        refine goes_ Try.func70 (by kernel_rfl) rfl #[.agg #[.slice A101_0 ((rd_T67 l0 x5_1).f0).length c101_0, .slice A101_1 ((rd_T67 l0 x5_1).f1).length c101_1], .agg #[.slice A102_0 ((rd_T67 l1 x5_1).f0).length c102_0, .slice A102_1 ((rd_T67 l1 x5_1).f1).length c102_1]] (by rfl) rfl rfl qz3_ ?_
        with_reducible refine (laws_eqQuery.calls k1 _ _ ((rd_T67 l0 x5_1).f0) _ _ ((rd_T67 l0 x5_1).f1) _ _ ((rd_T67 l1 x5_1).f0) _ _ ((rd_T67 l1 x5_1).f1) true _ ?side1 ?side2 ?side3 ?side4 ?side5 ?side6 ?side7 ?side8 A7.out).mono ?_
        (case side1 => exact qc_ (Kd.C_below HR101_0.out HB.out))
        (case side2 => exact HC101_0.out)
        (case side3 => exact qc_ (Kd.C_below HR101_1.out HB.out))
        (case side4 => exact HC101_1.out)
        (case side5 => exact qc_ (Kd.C_below HR102_0.out HB.out))
        (case side6 => exact HC102_0.out)
        (case side7 => exact qc_ (Kd.C_below HR102_1.out HB.out))
        (case side8 => exact HC102_1.out)
        rintro e w10 ⟨rfl, hb⟩
        refine ⟨_, rfl, ?_⟩
        have n0_ := am_ (below_step qz4_ hb)
        clear HB
        have HB := n0_
        clear n0_
        (try clear hb)
        (try clear hb2)
        (try clear hk)
        (try clear hi)
        refine hK.out _ _ ⟨((HB.out.cell (World.block_lt_of_cell? w _ hw101_0)).trans hw101_0), ((HB.out.cell (World.block_lt_of_cell? w _ hw101_1)).trans hw101_1), ((HB.out.cell (World.block_lt_of_cell? w _ hw102_0)).trans hw102_0), ((HB.out.cell (World.block_lt_of_cell? w _ hw102_1)).trans hw102_1)⟩ (fun hHeld => ?_)
        clear hK K
        refine norm_ (a' := ?_) ?_ ?_
        rotate_left
        ·
         show Act.put _ (some 25) _ = _
         simp only [Act.put, List.setIfInBounds_toArray, List.set_cons_zero, List.set_cons_succ, i64_w, i32_w]
         rfl
        refine pure_ (i := 9) (N := some 26) (v := ?_) (a' := ?_) #[true, true, true, true, true, true, true, true, true, true] rfl rfl (any_of HT_.out (by kernel_rfl)) (fun _ _ _ h => h) (Or.inl ⟨(by rfl), ?_⟩) ?_ ?_
        rotate_left
        ·
         intro w'
         go_simp
         with_reducible rfl
        rotate_left
        ·
         simp only [Act.put, List.setIfInBounds_toArray, List.set_cons_zero, List.set_cons_succ, i64_w, i32_w]
         rfl
        refine done_ (done_of HT_.out (by kernel_rfl)) ?_
        try go_wp2
        go_roundg k1
        case measure => have := HK1.out; omega
        case rel => exact ⟨(wrap64 (x5_1 + 1)), qz0_, H', ⟨(by have := HK1.out; omega)⟩, ⟨qz4_⟩⟩
       ·
        replace c8 := Bool.eq_false_iff.mpr c8
        subst c8
        have H1 : (some false) = some r := by rw [if_neg (show ¬ (false = true) by decide)] at H; exact H
        clear H
        have H := H1
        clear H1
        obtain rfl := Option.some.inj H
        try go_wp2
        have n0_ := am_ (below_drew1 HB.out)
        clear HB
        have HB := n0_
        clear n0_
        have p101 : 0 ≤ (x5_1 : Int) := of_decide_eq_true qz2_
        have q101 : x5_1 < (l0.length : Int) := of_decide_eq_true qz2_
        obtain ⟨ad101, A101_0, c101_0, A101_1, c101_1, e101, hx101_0, hx101_1, hl101_0, hi101_0, hl101_1, hi101_1⟩ := at_T67 HR0.out x5_1 p101 q101
        have hw101_1 := hx101_1
        have hw101_0 := hx101_0
        cases e101
        replace hx101_0 := (HB.out.cell (World.block_lt_of_cell? w _ hx101_0)).trans hx101_0
        replace hx101_1 := (HB.out.cell (World.block_lt_of_cell? w _ hx101_1)).trans hx101_1
        have HR101_0 := am_ hi101_0
        have HC101_0 := am_ hl101_0
        clear hi101_0 hl101_0
        have HR101_1 := am_ hi101_1
        have HC101_1 := am_ hl101_1
        clear hi101_1 hl101_1
        replace p101 := eq_true p101
        replace q101 := eq_true q101
        have p102 : 0 ≤ (x5_1 : Int) := of_decide_eq_true qz2_
        have q102 : x5_1 < (l1.length : Int) := of_decide_eq_true qz2_
        obtain ⟨ad102, A102_0, c102_0, A102_1, c102_1, e102, hx102_0, hx102_1, hl102_0, hi102_0, hl102_1, hi102_1⟩ := at_T67 HR1.out x5_1 p102 q102
        have hw102_1 := hx102_1
        have hw102_0 := hx102_0
        cases e102
        replace hx102_0 := (HB.out.cell (World.block_lt_of_cell? w _ hx102_0)).trans hx102_0
        replace hx102_1 := (HB.out.cell (World.block_lt_of_cell? w _ hx102_1)).trans hx102_1
        have HR102_0 := am_ hi102_0
        have HC102_0 := am_ hl102_0
        clear hi102_0 hl102_0
        have HR102_1 := am_ hi102_1
        have HC102_1 := am_ hl102_1
        clear hi102_1 hl102_1
        replace p102 := eq_true p102
        replace q102 := eq_true q102
        refine start_ (n := 10) (S := fun w' => w'.cell? (ad101.add ((x5_1).toNat * 2)) = some (.slice A101_0 ((rd_T67 l0 x5_1).f0).length c101_0) ∧ w'.cell? ⟨(ad101.add ((x5_1).toNat * 2)).block, (ad101.add ((x5_1).toNat * 2)).off + 1, none⟩ = some (.slice A101_1 ((rd_T67 l0 x5_1).f1).length c101_1) ∧ w'.cell? (ad102.add ((x5_1).toNat * 2)) = some (.slice A102_0 ((rd_T67 l1 x5_1).f0).length c102_0) ∧ w'.cell? ⟨(ad102.add ((x5_1).toNat * 2)).block, (ad102.add ((x5_1).toNat * 2)).off + 1, none⟩ = some (.slice A102_1 ((rd_T67 l1 x5_1).f1).length c102_1)) (ds := []) #[false, false, false, false, false, false, false, false, false, false] (by kernel_rfl) rfl rfl ⟨((HB.out.cell (World.block_lt_of_cell? w _ hw101_0)).trans hw101_0), ((HB.out.cell (World.block_lt_of_cell? w _ hw101_1)).trans hw101_1), ((HB.out.cell (World.block_lt_of_cell? w _ hw102_0)).trans hw102_0), ((HB.out.cell (World.block_lt_of_cell? w _ hw102_1)).trans hw102_1)⟩ (fun hHeld => ?_); refine with_tabW laws_eqQueryS.tab6 laws_eqQueryS.bits6 (fun HT_ HW_ => ?_)
        generalize wr.drew = w11 at HB HR101_0 HR101_1 HR102_0 HR102_1 hx101_0 hx101_1 hx102_0 hx102_1 hHeld ⊢
        refine pure_ (i := 0) (N := some 17) (v := ?_) (a' := ?_) #[true, false, false, false, false, false, false, false, false, false] rfl rfl (any_of HT_.out (by kernel_rfl)) (fun _ _ _ h => h) (Or.inl ⟨(by rfl), ?_⟩) ?_ ?_
        rotate_left
        ·
         intro w'
         go_simp
         with_reducible rfl
        rotate_left
        ·
         simp only [Act.put, List.setIfInBounds_toArray, List.set_cons_zero, List.set_cons_succ, i64_w, i32_w]
         rfl
        refine pure_ (i := 1) (N := some 18) (v := ?_) (a' := ?_) #[true, true, false, false, false, false, false, false, false, false] rfl rfl (any_of HT_.out (by kernel_rfl)) (fun _ _ _ h => h) (Or.inl ⟨(by rfl), ?_⟩) ?_ ?_
        rotate_left
        ·
         intro w'
         go_simp
         with_reducible rfl
        rotate_left
        ·
         simp only [Act.put, List.setIfInBounds_toArray, List.set_cons_zero, List.set_cons_succ, i64_w, i32_w]
         rfl
        refine pure_ (i := 2) (N := some 19) (v := ?_) (a' := ?_) #[true, true, true, false, false, false, false, false, false, false] rfl rfl (any_of HT_.out (by kernel_rfl)) (fun _ _ _ h => h) (Or.inl ⟨(by rfl), ?_⟩) ?_ ?_
        rotate_left
        ·
         intro w'
         go_simp
         with_reducible rfl
        rotate_left
        ·
         simp only [Act.put, List.setIfInBounds_toArray, List.set_cons_zero, List.set_cons_succ, i64_w, i32_w]
         rfl
        refine pure_ (i := 4) (N := some 21) (v := ?_) (a' := ?_) #[true, true, true, false, true, false, false, false, false, false] rfl rfl (any_of HT_.out (by kernel_rfl)) (fun _ _ _ h => h) (Or.inl ⟨(by rfl), ?_⟩) ?_ ?_
        rotate_left
        ·
         intro w'
         go_simp
         with_reducible rfl
        rotate_left
        ·
         simp only [Act.put, List.setIfInBounds_toArray, List.set_cons_zero, List.set_cons_succ, i64_w, i32_w]
         rfl
        refine pure_ (i := 5) (N := some 22) (v := ?_) (a' := ?_) #[true, true, true, false, true, true, false, false, false, false] rfl rfl (any_of HT_.out (by kernel_rfl)) (fun _ _ _ h => h) (Or.inl ⟨(by rfl), ?_⟩) ?_ ?_
        rotate_left
        ·
         intro w'
         go_simp
         with_reducible rfl
        rotate_left
        ·
         simp only [Act.put, List.setIfInBounds_toArray, List.set_cons_zero, List.set_cons_succ, i64_w, i32_w]
         rfl
        refine pure_ (i := 6) (N := some 23) (v := ?_) (a' := ?_) #[true, true, true, false, true, true, true, false, false, false] rfl rfl (any_of HT_.out (by kernel_rfl)) (fun _ _ _ h => h) (Or.inl ⟨(by rfl), ?_⟩) ?_ ?_
        rotate_left
        ·
         intro w'
         go_simp
         with_reducible rfl
        rotate_left
        ·
         simp only [Act.put, List.setIfInBounds_toArray, List.set_cons_zero, List.set_cons_succ, i64_w, i32_w]
         rfl
        refine take_ (i := 3) (N := some 20) (v := ?_) (a' := ?_) #[true, true, true, true, true, true, true, false, false, false] rfl rfl (take_ofW HT_.out HW_.out (by kernel_rfl)) (fun _ _ _ h => h) (Or.inl ⟨(by rfl), ?_⟩) hHeld ?_ ?_
        rotate_left
        ·
         rintro w' ⟨s0, s1, s2, s3⟩
         go_simp
         with_reducible rfl
        rotate_left
        ·
         simp only [Act.put, List.setIfInBounds_toArray, List.set_cons_zero, List.set_cons_succ, i64_w, i32_w]
         rfl
        refine take_ (i := 7) (N := some 24) (v := ?_) (a' := ?_) #[true, true, true, true, true, true, true, true, false, false] rfl rfl (take_ofW HT_.out HW_.out (by kernel_rfl)) (fun _ _ _ h => h) (Or.inl ⟨(by rfl), ?_⟩) hHeld ?_ ?_
        rotate_left
        ·
         rintro w' ⟨s0, s1, s2, s3⟩
         go_simp
         with_reducible rfl
        rotate_left
        ·
         simp only [Act.put, List.setIfInBounds_toArray, List.set_cons_zero, List.set_cons_succ, i64_w, i32_w]
         rfl
        refine one_ (i := 8) (N := some 25) #[true, true, true, true, true, true, true, true, true, false] rfl rfl (one_of HT_.out (by kernel_rfl)) (by decide) (fun K hK => ?_)
        refine goes_ Try.func70 (by kernel_rfl) rfl #[.agg #[.slice A101_0 ((rd_T67 l0 x5_1).f0).length c101_0, .slice A101_1 ((rd_T67 l0 x5_1).f1).length c101_1], .agg #[.slice A102_0 ((rd_T67 l1 x5_1).f0).length c102_0, .slice A102_1 ((rd_T67 l1 x5_1).f1).length c102_1]] (by rfl) rfl rfl qz3_ ?_
        with_reducible refine (laws_eqQuery.calls k1 _ _ ((rd_T67 l0 x5_1).f0) _ _ ((rd_T67 l0 x5_1).f1) _ _ ((rd_T67 l1 x5_1).f0) _ _ ((rd_T67 l1 x5_1).f1) false _ ?side1 ?side2 ?side3 ?side4 ?side5 ?side6 ?side7 ?side8 A7.out).mono ?_
        (case side1 => exact qc_ (Kd.C_below HR101_0.out HB.out))
        (case side2 => exact HC101_0.out)
        (case side3 => exact qc_ (Kd.C_below HR101_1.out HB.out))
        (case side4 => exact HC101_1.out)
        (case side5 => exact qc_ (Kd.C_below HR102_0.out HB.out))
        (case side6 => exact HC102_0.out)
        (case side7 => exact qc_ (Kd.C_below HR102_1.out HB.out))
        (case side8 => exact HC102_1.out)
        rintro e w12 ⟨rfl, hb⟩
        refine ⟨_, rfl, ?_⟩
        have n0_ := am_ (below_step qz4_ hb)
        clear HB
        have HB := n0_
        clear n0_
        (try clear hb)
        (try clear hb2)
        (try clear hk)
        (try clear hi)
        refine hK.out _ _ ⟨((HB.out.cell (World.block_lt_of_cell? w _ hw101_0)).trans hw101_0), ((HB.out.cell (World.block_lt_of_cell? w _ hw101_1)).trans hw101_1), ((HB.out.cell (World.block_lt_of_cell? w _ hw102_0)).trans hw102_0), ((HB.out.cell (World.block_lt_of_cell? w _ hw102_1)).trans hw102_1)⟩ (fun hHeld => ?_)
        clear hK K
        refine norm_ (a' := ?_) ?_ ?_
        rotate_left
        ·
         show Act.put _ (some 25) _ = _
         simp only [Act.put, List.setIfInBounds_toArray, List.set_cons_zero, List.set_cons_succ, i64_w, i32_w]
         rfl
        refine pure_ (i := 9) (N := some 26) (v := ?_) (a' := ?_) #[true, true, true, true, true, true, true, true, true, true] rfl rfl (any_of HT_.out (by kernel_rfl)) (fun _ _ _ h => h) (Or.inl ⟨(by rfl), ?_⟩) ?_ ?_
        rotate_left
        ·
         intro w'
         go_simp
         with_reducible rfl
        rotate_left
        ·
         simp only [Act.put, List.setIfInBounds_toArray, List.set_cons_zero, List.set_cons_succ, i64_w, i32_w]
         rfl
        refine done_ (done_of HT_.out (by kernel_rfl)) ?_
        try go_wp2
        go_ret
        exact ⟨qz5_, qz4_⟩
      ·
       rw [if_neg c6] at H
       exact absurd H (by simp)
     ·
      rw [if_neg c5] at H
      exact absurd H (by simp)
    ·
     rw [if_neg c4] at H
     have c4b0 : decide (x5_1 < (l0.length : Int)) = false := decide_eq_false c4
     clear c4
     obtain rfl := Option.some.inj H
     go_wp2
     go_ret
     exact ⟨qz5_, qz4_⟩
 ·
  rw [if_neg c3] at H
  have c3b0 : ((l0.length : Int) == (l1.length : Int)) = false := beq_eq_false_iff_ne.mpr c3
  have c3b1 : ((l0.length : Int) != (l1.length : Int)) = true := bne_iff_ne.mpr c3
  have c3b2 : (l0.length == l1.length) = false := by first | simpa using c3 | (simp at c3 ⊢; omega)
  obtain rfl := Option.some.inj H
  go_enter Try.func46, Try.ntmps46
  go_wp2
  go_ret
  exact ⟨qz5_, qz4_⟩


/-! ### laws_eqOpening: function 19 -/
def laws_eqOpening.f (k : Nat) (l0_0 : List (List (S44))) (l0_1 : List ByteArray) (a0_2 : Int) (a0_3 : Int) (a0_4 : Int) (l0_5 : List (S67)) (l1_0 : List (List (S44))) (l1_1 : List ByteArray) (a1_2 : Int) (a1_3 : Int) (a1_4 : Int) (l1_5 : List (S67)) : Option (Bool) := (laws_eqExtSS.f k l0_0 l1_0).bind fun t103 => (if t103 = true then ((laws_eqStringS.f k l0_1 l1_1).bind fun t104 => (if t104 = true then ((laws_eqExt.f a0_2 a0_3 a1_2 a1_3).bind fun t105 => (if t105 = true then (if a0_4 = a1_4 then ((laws_eqQueryS.f k l0_5 l1_5).bind fun t106 => (if t106 = true then (some true) else (some false))) else (some false)) else (some false))) else (some false))) else (some false))
theorem laws_eqOpening.mono : ∀ a0 a1 a2 a3 a4 a5 a6 a7 a8 a9 a10 a11 k, LeO (laws_eqOpening.f k a0 a1 a2 a3 a4 a5 a6 a7 a8 a9 a10 a11) (laws_eqOpening.f (k + 1) a0 a1 a2 a3 a4 a5 a6 a7 a8 a9 a10 a11) := by
 intro a0 a1 a2 a3 a4 a5 a6 a7 a8 a9 a10 a11 k
 unfold laws_eqOpening.f
 repeat' first
   | (with_reducible exact laws_eqExtSS.mono _ _ _)
   | (with_reducible exact laws_eqQueryS.mono _ _ _)
   | (with_reducible exact laws_eqStringS.mono _ _ _)
   | (with_reducible exact LeO.refl _)
   | (with_reducible exact LeO.none _)
   | (with_reducible refine LeO.ite ?_ ?_)
   | (with_reducible refine LeO.bind ?_ (fun _ => ?_))
   | exact laws_eqExtSS.mono _ _ _
   | exact laws_eqQueryS.mono _ _ _
   | exact laws_eqStringS.mono _ _ _
   | exact LeO.none _
   | refine LeO.ite ?_ ?_
   | refine LeO.bind ?_ (fun _ => ?_)
set_option maxHeartbeats 8000000 in
set_option maxRecDepth 100000 in
theorem laws_eqOpening.calls (k : Nat) (A0_0 : Option Addr) (c0_0 : Nat) (l0_0 : List (List (S44))) (A0_1 : Option Addr) (c0_1 : Nat) (l0_1 : List ByteArray) (a0_2 : Int) (a0_3 : Int) (a0_4 : Int) (A0_5 : Option Addr) (c0_5 : Nat) (l0_5 : List (S67)) (A1_0 : Option Addr) (c1_0 : Nat) (l1_0 : List (List (S44))) (A1_1 : Option Addr) (c1_1 : Nat) (l1_1 : List ByteArray) (a1_2 : Int) (a1_3 : Int) (a1_4 : Int) (A1_5 : Option Addr) (c1_5 : Nat) (l1_5 : List (S67)) (r : Bool) (w : World) (hr0_0 : Kd.C (Kd.slice 44 k44) w A0_0 l0_0.length l0_0) (hc0_0 : l0_0.length ≤ c0_0) (hr0_1 : Kd.C Kd.string w A0_1 l0_1.length l0_1) (hc0_1 : l0_1.length ≤ c0_1) (hr0_5 : Kd.C k67 w A0_5 l0_5.length l0_5) (hc0_5 : l0_5.length ≤ c0_5) (hr1_0 : Kd.C (Kd.slice 44 k44) w A1_0 l1_0.length l1_0) (hc1_0 : l1_0.length ≤ c1_0) (hr1_1 : Kd.C Kd.string w A1_1 l1_1.length l1_1) (hc1_1 : l1_1.length ≤ c1_1) (hr1_5 : Kd.C k67 w A1_5 l1_5.length l1_5) (hc1_5 : l1_5.length ≤ c1_5) (h : laws_eqOpening.f k l0_0 l0_1 a0_2 a0_3 a0_4 l0_5 l1_0 l1_1 a1_2 a1_3 a1_4 l1_5 = some r) :
  Calls Try.prog 19 #[.agg #[.slice A0_0 l0_0.length c0_0, .slice A0_1 l0_1.length c0_1, .int .i64 a0_2, .int .i64 a0_3, .int .i64 a0_4, .slice A0_5 l0_5.length c0_5], .agg #[.slice A1_0 l1_0.length c1_0, .slice A1_1 l1_1.length c1_1, .int .i64 a1_2, .int .i64 a1_3, .int .i64 a1_4, .slice A1_5 l1_5.length c1_5]] w fun e w' => e = .returned (.bool r) ∧ Below w.heap.size w w' := by
 have hu47 := Try.underlying47
 have hu44 := Try.underlying44
 have HR0_0 := am_ hr0_0
 have HC0_0 := am_ hc0_0
 clear hr0_0 hc0_0
 have HR0_1 := am_ hr0_1
 have HC0_1 := am_ hc0_1
 clear hr0_1 hc0_1
 have HR0_5 := am_ hr0_5
 have HC0_5 := am_ hc0_5
 clear hr0_5 hc0_5
 have HR1_0 := am_ hr1_0
 have HC1_0 := am_ hc1_0
 clear hr1_0 hc1_0
 have HR1_1 := am_ hr1_1
 have HC1_1 := am_ hc1_1
 clear hr1_1 hc1_1
 have HR1_5 := am_ hr1_5
 have HC1_5 := am_ hc1_5
 clear hr1_5 hc1_5
 have HB := am_ (Below.refl w.heap.size w)
 have H : ((laws_eqExtSS.f k l0_0 l1_0).bind fun t103 => (if t103 = true then ((laws_eqStringS.f k l0_1 l1_1).bind fun t104 => (if t104 = true then ((laws_eqExt.f a0_2 a0_3 a1_2 a1_3).bind fun t105 => (if t105 = true then (if a0_4 = a1_4 then ((laws_eqQueryS.f k l0_5 l1_5).bind fun t106 => (if t106 = true then (some true) else (some false))) else (some false)) else (some false))) else (some false))) else (some false))) = some r := h
 clear h
 replace H := Option.bind_eq_some_iff.mp H
 obtain ⟨t103, A30, H⟩ := H
 replace H : (if t103 = true then ((laws_eqStringS.f k l0_1 l1_1).bind fun t104 => (if t104 = true then ((laws_eqExt.f a0_2 a0_3 a1_2 a1_3).bind fun t105 => (if t105 = true then (if a0_4 = a1_4 then ((laws_eqQueryS.f k l0_5 l1_5).bind fun t106 => (if t106 = true then (some true) else (some false))) else (some false)) else (some false))) else (some false))) else (some false)) = some r := H
 have A3 := am_ A30
 clear A30
 by_cases c4 : t103 = true
 ·
  subst c4
  have H1 : ((laws_eqStringS.f k l0_1 l1_1).bind fun t104 => (if t104 = true then ((laws_eqExt.f a0_2 a0_3 a1_2 a1_3).bind fun t105 => (if t105 = true then (if a0_4 = a1_4 then ((laws_eqQueryS.f k l0_5 l1_5).bind fun t106 => (if t106 = true then (some true) else (some false))) else (some false)) else (some false))) else (some false))) = some r := by rw [if_pos rfl] at H; exact H
  clear H
  have H := H1
  clear H1
  replace H := Option.bind_eq_some_iff.mp H
  obtain ⟨t104, A50, H⟩ := H
  replace H : (if t104 = true then ((laws_eqExt.f a0_2 a0_3 a1_2 a1_3).bind fun t105 => (if t105 = true then (if a0_4 = a1_4 then ((laws_eqQueryS.f k l0_5 l1_5).bind fun t106 => (if t106 = true then (some true) else (some false))) else (some false)) else (some false))) else (some false)) = some r := H
  have A5 := am_ A50
  clear A50
  by_cases c6 : t104 = true
  ·
   subst c6
   have H1 : ((laws_eqExt.f a0_2 a0_3 a1_2 a1_3).bind fun t105 => (if t105 = true then (if a0_4 = a1_4 then ((laws_eqQueryS.f k l0_5 l1_5).bind fun t106 => (if t106 = true then (some true) else (some false))) else (some false)) else (some false))) = some r := by rw [if_pos rfl] at H; exact H
   clear H
   have H := H1
   clear H1
   replace H := Option.bind_eq_some_iff.mp H
   obtain ⟨t105, A70, H⟩ := H
   replace H : (if t105 = true then (if a0_4 = a1_4 then ((laws_eqQueryS.f k l0_5 l1_5).bind fun t106 => (if t106 = true then (some true) else (some false))) else (some false)) else (some false)) = some r := H
   have A7 := am_ A70
   clear A70
   by_cases c8 : t105 = true
   ·
    subst c8
    have H1 : (if a0_4 = a1_4 then ((laws_eqQueryS.f k l0_5 l1_5).bind fun t106 => (if t106 = true then (some true) else (some false))) else (some false)) = some r := by rw [if_pos rfl] at H; exact H
    clear H
    have H := H1
    clear H1
    by_cases c9 : a0_4 = a1_4
    ·
     rw [if_pos c9] at H
     have c9b0 : (a0_4 == a1_4) = true := beq_iff_eq.mpr c9
     have c9b1 : (a0_4 != a1_4) = false := bne_eq_false_iff_eq.mpr c9
     clear c9
     replace H := Option.bind_eq_some_iff.mp H
     obtain ⟨t106, A100, H⟩ := H
     replace H : (if t106 = true then (some true) else (some false)) = some r := H
     have A10 := am_ A100
     clear A100
     by_cases c11 : t106 = true
     ·
      subst c11
      have H1 : (some true) = some r := by rw [if_pos rfl] at H; exact H
      clear H
      have H := H1
      clear H1
      obtain rfl := Option.some.inj H
      go_enter Try.func19, Try.ntmps19
      go_wp2_with (first | ((with_reducible refine gate_dst (N := 2) rfl ?_); refine box_event ?hg (N := 2) ?hd (cs := #[.slice A0_0 l0_0.length c0_0, .slice A0_1 l0_1.length c0_1, .int .i64 a0_2, .int .i64 a0_3, .int .i64 a0_4, .slice A0_5 l0_5.length c0_5]) (t := 47) ?hr ?_; (case hd => rfl); (case hg => rfl); (case hr => first | (go_simp; done) | (go_simp; rfl)); intro gb101 hg w12 hbox hb; have n0_ := am_ (below_step qz4_ hb); have n1_ := am_ (hbox); have n2_ := am_ ((by rw [hg]; exact (below_size qz4_) : w.heap.size ≤ gb101)); have n3_ := am_ ((by rw [hg]; exact (below_size qz4_) : w.heap.size ≤ gb101)); clear HB; have HB := n0_; have BK101 := n1_; have GW101 := n2_; have GE101 := n3_; clear n0_ n1_ n2_ n3_; clear hb hbox hg) | ((with_reducible refine gate_dst (N := 3) rfl ?_); refine box_event ?hg (N := 3) ?hd (cs := #[.slice A1_0 l1_0.length c1_0, .slice A1_1 l1_1.length c1_1, .int .i64 a1_2, .int .i64 a1_3, .int .i64 a1_4, .slice A1_5 l1_5.length c1_5]) (t := 47) ?hr ?_; (case hd => rfl); (case hg => rfl); (case hr => first | (go_simp; done) | (go_simp; rfl)); intro gb102 hg w13 hbox hb; have n0_ := am_ (blk_below (g := gb101) (o := .cells #[.slice A0_0 l0_0.length c0_0, .slice A0_1 l0_1.length c0_1, .int .i64 a0_2, .int .i64 a0_3, .int .i64 a0_4, .slice A0_5 l0_5.length c0_5] 47 (0, 0)) qz7_ hb); have n1_ := am_ (below_step qz6_ hb); have n2_ := am_ (hbox); have n3_ := am_ ((by rw [hg]; exact (below_size qz6_) : w.heap.size ≤ gb102)); have n4_ := am_ ((by rw [hg]; exact (below_size qz6_) : w.heap.size ≤ gb102)); have n5_ := am_ ((by rw [hg]; exact Nat.ne_of_lt (blk_lt (g := gb101) (o := .cells #[.slice A0_0 l0_0.length c0_0, .slice A0_1 l0_1.length c0_1, .int .i64 a0_2, .int .i64 a0_3, .int .i64 a0_4, .slice A0_5 l0_5.length c0_5] 47 (0, 0)) qz7_) : gb101 ≠ gb102)); have n6_ := am_ ((by rw [hg]; exact Nat.ne_of_gt (blk_lt (g := gb101) (o := .cells #[.slice A0_0 l0_0.length c0_0, .slice A0_1 l0_1.length c0_1, .int .i64 a0_2, .int .i64 a0_3, .int .i64 a0_4, .slice A0_5 l0_5.length c0_5] 47 (0, 0)) qz7_) : gb102 ≠ gb101)); clear BK101; clear HB; have BK101 := n0_; have HB := n1_; have BK102 := n2_; have GW102 := n3_; have GE102 := n4_; have NB101_102 := n5_; have NB102_101 := n6_; clear n0_ n1_ n2_ n3_ n4_ n5_ n6_; clear hb hbox hg; have hnb14 := NB101_102.out; have hnc14 := NB102_101.out; have hcz15_0 : w13.cell? ⟨gb101, 0, none⟩ = some (.slice A0_0 l0_0.length c0_0) := (blk_cell BK101.out 0).trans rfl; have hcz15_1 : w13.cell? ⟨gb101, 1, none⟩ = some (.slice A0_1 l0_1.length c0_1) := (blk_cell BK101.out 1).trans rfl; have hcz15_2 : w13.cell? ⟨gb101, 2, none⟩ = some (.int .i64 a0_2) := (blk_cell BK101.out 2).trans rfl; have hcz15_3 : w13.cell? ⟨gb101, 3, none⟩ = some (.int .i64 a0_3) := (blk_cell BK101.out 3).trans rfl; have hcz15_4 : w13.cell? ⟨gb101, 4, none⟩ = some (.int .i64 a0_4) := (blk_cell BK101.out 4).trans rfl; have hcz15_5 : w13.cell? ⟨gb101, 5, none⟩ = some (.slice A0_5 l0_5.length c0_5) := (blk_cell BK101.out 5).trans rfl; have hfz15_0 := blk_frozen BK101.out 0; have hfz15_1 := blk_frozen BK101.out 1; have hfz15_2 := blk_frozen BK101.out 2; have hfz15_3 := blk_frozen BK101.out 3; have hfz15_4 := blk_frozen BK101.out 4; have hfz15_5 := blk_frozen BK101.out 5; have hcz16_0 : w13.cell? ⟨gb102, 0, none⟩ = some (.slice A1_0 l1_0.length c1_0) := (blk_cell BK102.out 0).trans rfl; have hcz16_1 : w13.cell? ⟨gb102, 1, none⟩ = some (.slice A1_1 l1_1.length c1_1) := (blk_cell BK102.out 1).trans rfl; have hcz16_2 : w13.cell? ⟨gb102, 2, none⟩ = some (.int .i64 a1_2) := (blk_cell BK102.out 2).trans rfl; have hcz16_3 : w13.cell? ⟨gb102, 3, none⟩ = some (.int .i64 a1_3) := (blk_cell BK102.out 3).trans rfl; have hcz16_4 : w13.cell? ⟨gb102, 4, none⟩ = some (.int .i64 a1_4) := (blk_cell BK102.out 4).trans rfl; have hcz16_5 : w13.cell? ⟨gb102, 5, none⟩ = some (.slice A1_5 l1_5.length c1_5) := (blk_cell BK102.out 5).trans rfl; have hfz16_0 := blk_frozen BK102.out 0; have hfz16_1 := blk_frozen BK102.out 1; have hfz16_2 := blk_frozen BK102.out 2; have hfz16_3 := blk_frozen BK102.out 3; have hfz16_4 := blk_frozen BK102.out 4; have hfz16_5 := blk_frozen BK102.out 5) | ((with_reducible refine gate_callee (f := 10) rfl ?_); refine goesL_ (some 9) rfl rfl Try.func10 (by kernel_rfl) rfl #[.slice A0_0 l0_0.length c0_0, .slice A1_0 l1_0.length c1_0] rfl qz3_ ?_; (with_reducible refine (laws_eqExtSS.calls k _ _ l0_0 _ _ l1_0 true _ ?side1 ?side2 ?side3 ?side4 A3.out).mono ?_); (case side1 => exact qc_ (Kd.C_below HR0_0.out HB.out)); (case side2 => exact HC0_0.out); (case side3 => exact qc_ (Kd.C_below HR1_0.out HB.out)); (case side4 => exact HC1_0.out); rintro e w17 ⟨rfl, hb⟩; refine ⟨_, rfl, ?_⟩; have n0_ := am_ (blk_below (g := gb101) (o := .cells #[.slice A0_0 l0_0.length c0_0, .slice A0_1 l0_1.length c0_1, .int .i64 a0_2, .int .i64 a0_3, .int .i64 a0_4, .slice A0_5 l0_5.length c0_5] 47 (0, 0)) qz7_ hb); have n1_ := am_ (blk_below (g := gb102) (o := .cells #[.slice A1_0 l1_0.length c1_0, .slice A1_1 l1_1.length c1_1, .int .i64 a1_2, .int .i64 a1_3, .int .i64 a1_4, .slice A1_5 l1_5.length c1_5] 47 (0, 0)) qz8_ hb); have n2_ := am_ (below_step qz9_ hb); clear BK101; clear BK102; clear HB; have BK101 := n0_; have BK102 := n1_; have HB := n2_; clear n0_ n1_ n2_; (try clear hb); (try clear hb2); (try clear hk); (try clear hi); have hcz18_0 : w17.cell? ⟨gb101, 0, none⟩ = some (.slice A0_0 l0_0.length c0_0) := (blk_cell BK101.out 0).trans rfl; have hcz18_1 : w17.cell? ⟨gb101, 1, none⟩ = some (.slice A0_1 l0_1.length c0_1) := (blk_cell BK101.out 1).trans rfl; have hcz18_2 : w17.cell? ⟨gb101, 2, none⟩ = some (.int .i64 a0_2) := (blk_cell BK101.out 2).trans rfl; have hcz18_3 : w17.cell? ⟨gb101, 3, none⟩ = some (.int .i64 a0_3) := (blk_cell BK101.out 3).trans rfl; have hcz18_4 : w17.cell? ⟨gb101, 4, none⟩ = some (.int .i64 a0_4) := (blk_cell BK101.out 4).trans rfl; have hcz18_5 : w17.cell? ⟨gb101, 5, none⟩ = some (.slice A0_5 l0_5.length c0_5) := (blk_cell BK101.out 5).trans rfl; have hfz18_0 := blk_frozen BK101.out 0; have hfz18_1 := blk_frozen BK101.out 1; have hfz18_2 := blk_frozen BK101.out 2; have hfz18_3 := blk_frozen BK101.out 3; have hfz18_4 := blk_frozen BK101.out 4; have hfz18_5 := blk_frozen BK101.out 5; have hcz19_0 : w17.cell? ⟨gb102, 0, none⟩ = some (.slice A1_0 l1_0.length c1_0) := (blk_cell BK102.out 0).trans rfl; have hcz19_1 : w17.cell? ⟨gb102, 1, none⟩ = some (.slice A1_1 l1_1.length c1_1) := (blk_cell BK102.out 1).trans rfl; have hcz19_2 : w17.cell? ⟨gb102, 2, none⟩ = some (.int .i64 a1_2) := (blk_cell BK102.out 2).trans rfl; have hcz19_3 : w17.cell? ⟨gb102, 3, none⟩ = some (.int .i64 a1_3) := (blk_cell BK102.out 3).trans rfl; have hcz19_4 : w17.cell? ⟨gb102, 4, none⟩ = some (.int .i64 a1_4) := (blk_cell BK102.out 4).trans rfl; have hcz19_5 : w17.cell? ⟨gb102, 5, none⟩ = some (.slice A1_5 l1_5.length c1_5) := (blk_cell BK102.out 5).trans rfl; have hfz19_0 := blk_frozen BK102.out 0; have hfz19_1 := blk_frozen BK102.out 1; have hfz19_2 := blk_frozen BK102.out 2; have hfz19_3 := blk_frozen BK102.out 3; have hfz19_4 := blk_frozen BK102.out 4; have hfz19_5 := blk_frozen BK102.out 5) | ((with_reducible refine gate_callee (f := 45) rfl ?_); refine goesL_ (some 15) rfl rfl Try.func45 (by kernel_rfl) rfl #[.slice A0_1 l0_1.length c0_1, .slice A1_1 l1_1.length c1_1] rfl qz3_ ?_; (with_reducible refine (laws_eqStringS.calls k _ _ l0_1 _ _ l1_1 true _ ?side1 ?side2 ?side3 ?side4 A5.out).mono ?_); (case side1 => exact qc_ (Kd.C_below HR0_1.out HB.out)); (case side2 => exact HC0_1.out); (case side3 => exact qc_ (Kd.C_below HR1_1.out HB.out)); (case side4 => exact HC1_1.out); rintro e w' ⟨rfl, ⟨nd, rfl⟩⟩; refine ⟨_, rfl, ?_⟩) | ((with_reducible refine gate_callee (f := 26) rfl ?_); refine goesL_ (some 21) rfl rfl Try.func26 (by kernel_rfl) rfl #[.agg #[.int .i64 a0_2, .int .i64 a0_3], .agg #[.int .i64 a1_2, .int .i64 a1_3]] rfl qz3_ ?_; (with_reducible refine (laws_eqExt.calls a0_2 a0_3 a1_2 a1_3 true _ A7.out).mono ?_); rintro e w20 ⟨rfl, hb⟩; refine ⟨_, rfl, ?_⟩; have n0_ := am_ (blk_below (g := gb101) (o := .cells #[.slice A0_0 l0_0.length c0_0, .slice A0_1 l0_1.length c0_1, .int .i64 a0_2, .int .i64 a0_3, .int .i64 a0_4, .slice A0_5 l0_5.length c0_5] 47 (0, 0)) qz7_ hb); have n1_ := am_ (blk_below (g := gb102) (o := .cells #[.slice A1_0 l1_0.length c1_0, .slice A1_1 l1_1.length c1_1, .int .i64 a1_2, .int .i64 a1_3, .int .i64 a1_4, .slice A1_5 l1_5.length c1_5] 47 (0, 0)) qz8_ hb); have n2_ := am_ (below_step qz9_ hb); clear BK101; clear BK102; clear HB; have BK101 := n0_; have BK102 := n1_; have HB := n2_; clear n0_ n1_ n2_; (try clear hb); (try clear hb2); (try clear hk); (try clear hi); have hcz21_0 : w20.cell? ⟨gb101, 0, none⟩ = some (.slice A0_0 l0_0.length c0_0) := (blk_cell BK101.out 0).trans rfl; have hcz21_1 : w20.cell? ⟨gb101, 1, none⟩ = some (.slice A0_1 l0_1.length c0_1) := (blk_cell BK101.out 1).trans rfl; have hcz21_2 : w20.cell? ⟨gb101, 2, none⟩ = some (.int .i64 a0_2) := (blk_cell BK101.out 2).trans rfl; have hcz21_3 : w20.cell? ⟨gb101, 3, none⟩ = some (.int .i64 a0_3) := (blk_cell BK101.out 3).trans rfl; have hcz21_4 : w20.cell? ⟨gb101, 4, none⟩ = some (.int .i64 a0_4) := (blk_cell BK101.out 4).trans rfl; have hcz21_5 : w20.cell? ⟨gb101, 5, none⟩ = some (.slice A0_5 l0_5.length c0_5) := (blk_cell BK101.out 5).trans rfl; have hfz21_0 := blk_frozen BK101.out 0; have hfz21_1 := blk_frozen BK101.out 1; have hfz21_2 := blk_frozen BK101.out 2; have hfz21_3 := blk_frozen BK101.out 3; have hfz21_4 := blk_frozen BK101.out 4; have hfz21_5 := blk_frozen BK101.out 5; have hcz22_0 : w20.cell? ⟨gb102, 0, none⟩ = some (.slice A1_0 l1_0.length c1_0) := (blk_cell BK102.out 0).trans rfl; have hcz22_1 : w20.cell? ⟨gb102, 1, none⟩ = some (.slice A1_1 l1_1.length c1_1) := (blk_cell BK102.out 1).trans rfl; have hcz22_2 : w20.cell? ⟨gb102, 2, none⟩ = some (.int .i64 a1_2) := (blk_cell BK102.out 2).trans rfl; have hcz22_3 : w20.cell? ⟨gb102, 3, none⟩ = some (.int .i64 a1_3) := (blk_cell BK102.out 3).trans rfl; have hcz22_4 : w20.cell? ⟨gb102, 4, none⟩ = some (.int .i64 a1_4) := (blk_cell BK102.out 4).trans rfl; have hcz22_5 : w20.cell? ⟨gb102, 5, none⟩ = some (.slice A1_5 l1_5.length c1_5) := (blk_cell BK102.out 5).trans rfl; have hfz22_0 := blk_frozen BK102.out 0; have hfz22_1 := blk_frozen BK102.out 1; have hfz22_2 := blk_frozen BK102.out 2; have hfz22_3 := blk_frozen BK102.out 3; have hfz22_4 := blk_frozen BK102.out 4; have hfz22_5 := blk_frozen BK102.out 5) | ((with_reducible refine gate_callee (f := 46) rfl ?_); refine goesL_ (some 32) rfl rfl Try.func46 (by kernel_rfl) rfl #[.slice A0_5 l0_5.length c0_5, .slice A1_5 l1_5.length c1_5] rfl qz3_ ?_; (with_reducible refine (laws_eqQueryS.calls k _ _ l0_5 _ _ l1_5 true _ ?side1 ?side2 ?side3 ?side4 A10.out).mono ?_); (case side1 => exact qc_ (Kd.C_below HR0_5.out HB.out)); (case side2 => exact HC0_5.out); (case side3 => exact qc_ (Kd.C_below HR1_5.out HB.out)); (case side4 => exact HC1_5.out); rintro e w23 ⟨rfl, hb⟩; refine ⟨_, rfl, ?_⟩; have n0_ := am_ (blk_below (g := gb101) (o := .cells #[.slice A0_0 l0_0.length c0_0, .slice A0_1 l0_1.length c0_1, .int .i64 a0_2, .int .i64 a0_3, .int .i64 a0_4, .slice A0_5 l0_5.length c0_5] 47 (0, 0)) qz7_ hb); have n1_ := am_ (blk_below (g := gb102) (o := .cells #[.slice A1_0 l1_0.length c1_0, .slice A1_1 l1_1.length c1_1, .int .i64 a1_2, .int .i64 a1_3, .int .i64 a1_4, .slice A1_5 l1_5.length c1_5] 47 (0, 0)) qz8_ hb); have n2_ := am_ (below_step qz9_ hb); clear BK101; clear BK102; clear HB; have BK101 := n0_; have BK102 := n1_; have HB := n2_; clear n0_ n1_ n2_; (try clear hb); (try clear hb2); (try clear hk); (try clear hi)))
      go_ret
      exact ⟨qz5_, qz9_⟩
     ·
      replace c11 := Bool.eq_false_iff.mpr c11
      subst c11
      have H1 : (some false) = some r := by rw [if_neg (show ¬ (false = true) by decide)] at H; exact H
      clear H
      have H := H1
      clear H1
      obtain rfl := Option.some.inj H
      go_enter Try.func19, Try.ntmps19
      go_wp2_with (first | ((with_reducible refine gate_dst (N := 2) rfl ?_); refine box_event ?hg (N := 2) ?hd (cs := #[.slice A0_0 l0_0.length c0_0, .slice A0_1 l0_1.length c0_1, .int .i64 a0_2, .int .i64 a0_3, .int .i64 a0_4, .slice A0_5 l0_5.length c0_5]) (t := 47) ?hr ?_; (case hd => rfl); (case hg => rfl); (case hr => first | (go_simp; done) | (go_simp; rfl)); intro gb101 hg w24 hbox hb; have n0_ := am_ (below_step qz4_ hb); have n1_ := am_ (hbox); have n2_ := am_ ((by rw [hg]; exact (below_size qz4_) : w.heap.size ≤ gb101)); have n3_ := am_ ((by rw [hg]; exact (below_size qz4_) : w.heap.size ≤ gb101)); clear HB; have HB := n0_; have BK101 := n1_; have GW101 := n2_; have GE101 := n3_; clear n0_ n1_ n2_ n3_; clear hb hbox hg) | ((with_reducible refine gate_dst (N := 3) rfl ?_); refine box_event ?hg (N := 3) ?hd (cs := #[.slice A1_0 l1_0.length c1_0, .slice A1_1 l1_1.length c1_1, .int .i64 a1_2, .int .i64 a1_3, .int .i64 a1_4, .slice A1_5 l1_5.length c1_5]) (t := 47) ?hr ?_; (case hd => rfl); (case hg => rfl); (case hr => first | (go_simp; done) | (go_simp; rfl)); intro gb102 hg w25 hbox hb; have n0_ := am_ (blk_below (g := gb101) (o := .cells #[.slice A0_0 l0_0.length c0_0, .slice A0_1 l0_1.length c0_1, .int .i64 a0_2, .int .i64 a0_3, .int .i64 a0_4, .slice A0_5 l0_5.length c0_5] 47 (0, 0)) qz7_ hb); have n1_ := am_ (below_step qz6_ hb); have n2_ := am_ (hbox); have n3_ := am_ ((by rw [hg]; exact (below_size qz6_) : w.heap.size ≤ gb102)); have n4_ := am_ ((by rw [hg]; exact (below_size qz6_) : w.heap.size ≤ gb102)); have n5_ := am_ ((by rw [hg]; exact Nat.ne_of_lt (blk_lt (g := gb101) (o := .cells #[.slice A0_0 l0_0.length c0_0, .slice A0_1 l0_1.length c0_1, .int .i64 a0_2, .int .i64 a0_3, .int .i64 a0_4, .slice A0_5 l0_5.length c0_5] 47 (0, 0)) qz7_) : gb101 ≠ gb102)); have n6_ := am_ ((by rw [hg]; exact Nat.ne_of_gt (blk_lt (g := gb101) (o := .cells #[.slice A0_0 l0_0.length c0_0, .slice A0_1 l0_1.length c0_1, .int .i64 a0_2, .int .i64 a0_3, .int .i64 a0_4, .slice A0_5 l0_5.length c0_5] 47 (0, 0)) qz7_) : gb102 ≠ gb101)); clear BK101; clear HB; have BK101 := n0_; have HB := n1_; have BK102 := n2_; have GW102 := n3_; have GE102 := n4_; have NB101_102 := n5_; have NB102_101 := n6_; clear n0_ n1_ n2_ n3_ n4_ n5_ n6_; clear hb hbox hg; have hnb26 := NB101_102.out; have hnc26 := NB102_101.out; have hcz27_0 : w25.cell? ⟨gb101, 0, none⟩ = some (.slice A0_0 l0_0.length c0_0) := (blk_cell BK101.out 0).trans rfl; have hcz27_1 : w25.cell? ⟨gb101, 1, none⟩ = some (.slice A0_1 l0_1.length c0_1) := (blk_cell BK101.out 1).trans rfl; have hcz27_2 : w25.cell? ⟨gb101, 2, none⟩ = some (.int .i64 a0_2) := (blk_cell BK101.out 2).trans rfl; have hcz27_3 : w25.cell? ⟨gb101, 3, none⟩ = some (.int .i64 a0_3) := (blk_cell BK101.out 3).trans rfl; have hcz27_4 : w25.cell? ⟨gb101, 4, none⟩ = some (.int .i64 a0_4) := (blk_cell BK101.out 4).trans rfl; have hcz27_5 : w25.cell? ⟨gb101, 5, none⟩ = some (.slice A0_5 l0_5.length c0_5) := (blk_cell BK101.out 5).trans rfl; have hfz27_0 := blk_frozen BK101.out 0; have hfz27_1 := blk_frozen BK101.out 1; have hfz27_2 := blk_frozen BK101.out 2; have hfz27_3 := blk_frozen BK101.out 3; have hfz27_4 := blk_frozen BK101.out 4; have hfz27_5 := blk_frozen BK101.out 5; have hcz28_0 : w25.cell? ⟨gb102, 0, none⟩ = some (.slice A1_0 l1_0.length c1_0) := (blk_cell BK102.out 0).trans rfl; have hcz28_1 : w25.cell? ⟨gb102, 1, none⟩ = some (.slice A1_1 l1_1.length c1_1) := (blk_cell BK102.out 1).trans rfl; have hcz28_2 : w25.cell? ⟨gb102, 2, none⟩ = some (.int .i64 a1_2) := (blk_cell BK102.out 2).trans rfl; have hcz28_3 : w25.cell? ⟨gb102, 3, none⟩ = some (.int .i64 a1_3) := (blk_cell BK102.out 3).trans rfl; have hcz28_4 : w25.cell? ⟨gb102, 4, none⟩ = some (.int .i64 a1_4) := (blk_cell BK102.out 4).trans rfl; have hcz28_5 : w25.cell? ⟨gb102, 5, none⟩ = some (.slice A1_5 l1_5.length c1_5) := (blk_cell BK102.out 5).trans rfl; have hfz28_0 := blk_frozen BK102.out 0; have hfz28_1 := blk_frozen BK102.out 1; have hfz28_2 := blk_frozen BK102.out 2; have hfz28_3 := blk_frozen BK102.out 3; have hfz28_4 := blk_frozen BK102.out 4; have hfz28_5 := blk_frozen BK102.out 5) | ((with_reducible refine gate_callee (f := 10) rfl ?_); refine goesL_ (some 9) rfl rfl Try.func10 (by kernel_rfl) rfl #[.slice A0_0 l0_0.length c0_0, .slice A1_0 l1_0.length c1_0] rfl qz3_ ?_; (with_reducible refine (laws_eqExtSS.calls k _ _ l0_0 _ _ l1_0 true _ ?side1 ?side2 ?side3 ?side4 A3.out).mono ?_); (case side1 => exact qc_ (Kd.C_below HR0_0.out HB.out)); (case side2 => exact HC0_0.out); (case side3 => exact qc_ (Kd.C_below HR1_0.out HB.out)); (case side4 => exact HC1_0.out); rintro e w29 ⟨rfl, hb⟩; refine ⟨_, rfl, ?_⟩; have n0_ := am_ (blk_below (g := gb101) (o := .cells #[.slice A0_0 l0_0.length c0_0, .slice A0_1 l0_1.length c0_1, .int .i64 a0_2, .int .i64 a0_3, .int .i64 a0_4, .slice A0_5 l0_5.length c0_5] 47 (0, 0)) qz7_ hb); have n1_ := am_ (blk_below (g := gb102) (o := .cells #[.slice A1_0 l1_0.length c1_0, .slice A1_1 l1_1.length c1_1, .int .i64 a1_2, .int .i64 a1_3, .int .i64 a1_4, .slice A1_5 l1_5.length c1_5] 47 (0, 0)) qz8_ hb); have n2_ := am_ (below_step qz9_ hb); clear BK101; clear BK102; clear HB; have BK101 := n0_; have BK102 := n1_; have HB := n2_; clear n0_ n1_ n2_; (try clear hb); (try clear hb2); (try clear hk); (try clear hi); have hcz30_0 : w29.cell? ⟨gb101, 0, none⟩ = some (.slice A0_0 l0_0.length c0_0) := (blk_cell BK101.out 0).trans rfl; have hcz30_1 : w29.cell? ⟨gb101, 1, none⟩ = some (.slice A0_1 l0_1.length c0_1) := (blk_cell BK101.out 1).trans rfl; have hcz30_2 : w29.cell? ⟨gb101, 2, none⟩ = some (.int .i64 a0_2) := (blk_cell BK101.out 2).trans rfl; have hcz30_3 : w29.cell? ⟨gb101, 3, none⟩ = some (.int .i64 a0_3) := (blk_cell BK101.out 3).trans rfl; have hcz30_4 : w29.cell? ⟨gb101, 4, none⟩ = some (.int .i64 a0_4) := (blk_cell BK101.out 4).trans rfl; have hcz30_5 : w29.cell? ⟨gb101, 5, none⟩ = some (.slice A0_5 l0_5.length c0_5) := (blk_cell BK101.out 5).trans rfl; have hfz30_0 := blk_frozen BK101.out 0; have hfz30_1 := blk_frozen BK101.out 1; have hfz30_2 := blk_frozen BK101.out 2; have hfz30_3 := blk_frozen BK101.out 3; have hfz30_4 := blk_frozen BK101.out 4; have hfz30_5 := blk_frozen BK101.out 5; have hcz31_0 : w29.cell? ⟨gb102, 0, none⟩ = some (.slice A1_0 l1_0.length c1_0) := (blk_cell BK102.out 0).trans rfl; have hcz31_1 : w29.cell? ⟨gb102, 1, none⟩ = some (.slice A1_1 l1_1.length c1_1) := (blk_cell BK102.out 1).trans rfl; have hcz31_2 : w29.cell? ⟨gb102, 2, none⟩ = some (.int .i64 a1_2) := (blk_cell BK102.out 2).trans rfl; have hcz31_3 : w29.cell? ⟨gb102, 3, none⟩ = some (.int .i64 a1_3) := (blk_cell BK102.out 3).trans rfl; have hcz31_4 : w29.cell? ⟨gb102, 4, none⟩ = some (.int .i64 a1_4) := (blk_cell BK102.out 4).trans rfl; have hcz31_5 : w29.cell? ⟨gb102, 5, none⟩ = some (.slice A1_5 l1_5.length c1_5) := (blk_cell BK102.out 5).trans rfl; have hfz31_0 := blk_frozen BK102.out 0; have hfz31_1 := blk_frozen BK102.out 1; have hfz31_2 := blk_frozen BK102.out 2; have hfz31_3 := blk_frozen BK102.out 3; have hfz31_4 := blk_frozen BK102.out 4; have hfz31_5 := blk_frozen BK102.out 5) | ((with_reducible refine gate_callee (f := 45) rfl ?_); refine goesL_ (some 15) rfl rfl Try.func45 (by kernel_rfl) rfl #[.slice A0_1 l0_1.length c0_1, .slice A1_1 l1_1.length c1_1] rfl qz3_ ?_; (with_reducible refine (laws_eqStringS.calls k _ _ l0_1 _ _ l1_1 true _ ?side1 ?side2 ?side3 ?side4 A5.out).mono ?_); (case side1 => exact qc_ (Kd.C_below HR0_1.out HB.out)); (case side2 => exact HC0_1.out); (case side3 => exact qc_ (Kd.C_below HR1_1.out HB.out)); (case side4 => exact HC1_1.out); rintro e w' ⟨rfl, ⟨nd, rfl⟩⟩; refine ⟨_, rfl, ?_⟩) | ((with_reducible refine gate_callee (f := 26) rfl ?_); refine goesL_ (some 21) rfl rfl Try.func26 (by kernel_rfl) rfl #[.agg #[.int .i64 a0_2, .int .i64 a0_3], .agg #[.int .i64 a1_2, .int .i64 a1_3]] rfl qz3_ ?_; (with_reducible refine (laws_eqExt.calls a0_2 a0_3 a1_2 a1_3 true _ A7.out).mono ?_); rintro e w32 ⟨rfl, hb⟩; refine ⟨_, rfl, ?_⟩; have n0_ := am_ (blk_below (g := gb101) (o := .cells #[.slice A0_0 l0_0.length c0_0, .slice A0_1 l0_1.length c0_1, .int .i64 a0_2, .int .i64 a0_3, .int .i64 a0_4, .slice A0_5 l0_5.length c0_5] 47 (0, 0)) qz7_ hb); have n1_ := am_ (blk_below (g := gb102) (o := .cells #[.slice A1_0 l1_0.length c1_0, .slice A1_1 l1_1.length c1_1, .int .i64 a1_2, .int .i64 a1_3, .int .i64 a1_4, .slice A1_5 l1_5.length c1_5] 47 (0, 0)) qz8_ hb); have n2_ := am_ (below_step qz9_ hb); clear BK101; clear BK102; clear HB; have BK101 := n0_; have BK102 := n1_; have HB := n2_; clear n0_ n1_ n2_; (try clear hb); (try clear hb2); (try clear hk); (try clear hi); have hcz33_0 : w32.cell? ⟨gb101, 0, none⟩ = some (.slice A0_0 l0_0.length c0_0) := (blk_cell BK101.out 0).trans rfl; have hcz33_1 : w32.cell? ⟨gb101, 1, none⟩ = some (.slice A0_1 l0_1.length c0_1) := (blk_cell BK101.out 1).trans rfl; have hcz33_2 : w32.cell? ⟨gb101, 2, none⟩ = some (.int .i64 a0_2) := (blk_cell BK101.out 2).trans rfl; have hcz33_3 : w32.cell? ⟨gb101, 3, none⟩ = some (.int .i64 a0_3) := (blk_cell BK101.out 3).trans rfl; have hcz33_4 : w32.cell? ⟨gb101, 4, none⟩ = some (.int .i64 a0_4) := (blk_cell BK101.out 4).trans rfl; have hcz33_5 : w32.cell? ⟨gb101, 5, none⟩ = some (.slice A0_5 l0_5.length c0_5) := (blk_cell BK101.out 5).trans rfl; have hfz33_0 := blk_frozen BK101.out 0; have hfz33_1 := blk_frozen BK101.out 1; have hfz33_2 := blk_frozen BK101.out 2; have hfz33_3 := blk_frozen BK101.out 3; have hfz33_4 := blk_frozen BK101.out 4; have hfz33_5 := blk_frozen BK101.out 5; have hcz34_0 : w32.cell? ⟨gb102, 0, none⟩ = some (.slice A1_0 l1_0.length c1_0) := (blk_cell BK102.out 0).trans rfl; have hcz34_1 : w32.cell? ⟨gb102, 1, none⟩ = some (.slice A1_1 l1_1.length c1_1) := (blk_cell BK102.out 1).trans rfl; have hcz34_2 : w32.cell? ⟨gb102, 2, none⟩ = some (.int .i64 a1_2) := (blk_cell BK102.out 2).trans rfl; have hcz34_3 : w32.cell? ⟨gb102, 3, none⟩ = some (.int .i64 a1_3) := (blk_cell BK102.out 3).trans rfl; have hcz34_4 : w32.cell? ⟨gb102, 4, none⟩ = some (.int .i64 a1_4) := (blk_cell BK102.out 4).trans rfl; have hcz34_5 : w32.cell? ⟨gb102, 5, none⟩ = some (.slice A1_5 l1_5.length c1_5) := (blk_cell BK102.out 5).trans rfl; have hfz34_0 := blk_frozen BK102.out 0; have hfz34_1 := blk_frozen BK102.out 1; have hfz34_2 := blk_frozen BK102.out 2; have hfz34_3 := blk_frozen BK102.out 3; have hfz34_4 := blk_frozen BK102.out 4; have hfz34_5 := blk_frozen BK102.out 5) | ((with_reducible refine gate_callee (f := 46) rfl ?_); refine goesL_ (some 32) rfl rfl Try.func46 (by kernel_rfl) rfl #[.slice A0_5 l0_5.length c0_5, .slice A1_5 l1_5.length c1_5] rfl qz3_ ?_; (with_reducible refine (laws_eqQueryS.calls k _ _ l0_5 _ _ l1_5 false _ ?side1 ?side2 ?side3 ?side4 A10.out).mono ?_); (case side1 => exact qc_ (Kd.C_below HR0_5.out HB.out)); (case side2 => exact HC0_5.out); (case side3 => exact qc_ (Kd.C_below HR1_5.out HB.out)); (case side4 => exact HC1_5.out); rintro e w35 ⟨rfl, hb⟩; refine ⟨_, rfl, ?_⟩; have n0_ := am_ (blk_below (g := gb101) (o := .cells #[.slice A0_0 l0_0.length c0_0, .slice A0_1 l0_1.length c0_1, .int .i64 a0_2, .int .i64 a0_3, .int .i64 a0_4, .slice A0_5 l0_5.length c0_5] 47 (0, 0)) qz7_ hb); have n1_ := am_ (blk_below (g := gb102) (o := .cells #[.slice A1_0 l1_0.length c1_0, .slice A1_1 l1_1.length c1_1, .int .i64 a1_2, .int .i64 a1_3, .int .i64 a1_4, .slice A1_5 l1_5.length c1_5] 47 (0, 0)) qz8_ hb); have n2_ := am_ (below_step qz9_ hb); clear BK101; clear BK102; clear HB; have BK101 := n0_; have BK102 := n1_; have HB := n2_; clear n0_ n1_ n2_; (try clear hb); (try clear hb2); (try clear hk); (try clear hi)))
      go_ret
      exact ⟨qz5_, qz9_⟩
    ·
     rw [if_neg c9] at H
     have c9b0 : (a0_4 == a1_4) = false := beq_eq_false_iff_ne.mpr c9
     have c9b1 : (a0_4 != a1_4) = true := bne_iff_ne.mpr c9
     obtain rfl := Option.some.inj H
     go_enter Try.func19, Try.ntmps19
     go_wp2_with (first | ((with_reducible refine gate_dst (N := 2) rfl ?_); refine box_event ?hg (N := 2) ?hd (cs := #[.slice A0_0 l0_0.length c0_0, .slice A0_1 l0_1.length c0_1, .int .i64 a0_2, .int .i64 a0_3, .int .i64 a0_4, .slice A0_5 l0_5.length c0_5]) (t := 47) ?hr ?_; (case hd => rfl); (case hg => rfl); (case hr => first | (go_simp; done) | (go_simp; rfl)); intro gb101 hg w36 hbox hb; have n0_ := am_ (below_step qz4_ hb); have n1_ := am_ (hbox); have n2_ := am_ ((by rw [hg]; exact (below_size qz4_) : w.heap.size ≤ gb101)); have n3_ := am_ ((by rw [hg]; exact (below_size qz4_) : w.heap.size ≤ gb101)); clear HB; have HB := n0_; have BK101 := n1_; have GW101 := n2_; have GE101 := n3_; clear n0_ n1_ n2_ n3_; clear hb hbox hg) | ((with_reducible refine gate_dst (N := 3) rfl ?_); refine box_event ?hg (N := 3) ?hd (cs := #[.slice A1_0 l1_0.length c1_0, .slice A1_1 l1_1.length c1_1, .int .i64 a1_2, .int .i64 a1_3, .int .i64 a1_4, .slice A1_5 l1_5.length c1_5]) (t := 47) ?hr ?_; (case hd => rfl); (case hg => rfl); (case hr => first | (go_simp; done) | (go_simp; rfl)); intro gb102 hg w37 hbox hb; have n0_ := am_ (blk_below (g := gb101) (o := .cells #[.slice A0_0 l0_0.length c0_0, .slice A0_1 l0_1.length c0_1, .int .i64 a0_2, .int .i64 a0_3, .int .i64 a0_4, .slice A0_5 l0_5.length c0_5] 47 (0, 0)) qz7_ hb); have n1_ := am_ (below_step qz6_ hb); have n2_ := am_ (hbox); have n3_ := am_ ((by rw [hg]; exact (below_size qz6_) : w.heap.size ≤ gb102)); have n4_ := am_ ((by rw [hg]; exact (below_size qz6_) : w.heap.size ≤ gb102)); have n5_ := am_ ((by rw [hg]; exact Nat.ne_of_lt (blk_lt (g := gb101) (o := .cells #[.slice A0_0 l0_0.length c0_0, .slice A0_1 l0_1.length c0_1, .int .i64 a0_2, .int .i64 a0_3, .int .i64 a0_4, .slice A0_5 l0_5.length c0_5] 47 (0, 0)) qz7_) : gb101 ≠ gb102)); have n6_ := am_ ((by rw [hg]; exact Nat.ne_of_gt (blk_lt (g := gb101) (o := .cells #[.slice A0_0 l0_0.length c0_0, .slice A0_1 l0_1.length c0_1, .int .i64 a0_2, .int .i64 a0_3, .int .i64 a0_4, .slice A0_5 l0_5.length c0_5] 47 (0, 0)) qz7_) : gb102 ≠ gb101)); clear BK101; clear HB; have BK101 := n0_; have HB := n1_; have BK102 := n2_; have GW102 := n3_; have GE102 := n4_; have NB101_102 := n5_; have NB102_101 := n6_; clear n0_ n1_ n2_ n3_ n4_ n5_ n6_; clear hb hbox hg; have hnb38 := NB101_102.out; have hnc38 := NB102_101.out; have hcz39_0 : w37.cell? ⟨gb101, 0, none⟩ = some (.slice A0_0 l0_0.length c0_0) := (blk_cell BK101.out 0).trans rfl; have hcz39_1 : w37.cell? ⟨gb101, 1, none⟩ = some (.slice A0_1 l0_1.length c0_1) := (blk_cell BK101.out 1).trans rfl; have hcz39_2 : w37.cell? ⟨gb101, 2, none⟩ = some (.int .i64 a0_2) := (blk_cell BK101.out 2).trans rfl; have hcz39_3 : w37.cell? ⟨gb101, 3, none⟩ = some (.int .i64 a0_3) := (blk_cell BK101.out 3).trans rfl; have hcz39_4 : w37.cell? ⟨gb101, 4, none⟩ = some (.int .i64 a0_4) := (blk_cell BK101.out 4).trans rfl; have hcz39_5 : w37.cell? ⟨gb101, 5, none⟩ = some (.slice A0_5 l0_5.length c0_5) := (blk_cell BK101.out 5).trans rfl; have hfz39_0 := blk_frozen BK101.out 0; have hfz39_1 := blk_frozen BK101.out 1; have hfz39_2 := blk_frozen BK101.out 2; have hfz39_3 := blk_frozen BK101.out 3; have hfz39_4 := blk_frozen BK101.out 4; have hfz39_5 := blk_frozen BK101.out 5; have hcz40_0 : w37.cell? ⟨gb102, 0, none⟩ = some (.slice A1_0 l1_0.length c1_0) := (blk_cell BK102.out 0).trans rfl; have hcz40_1 : w37.cell? ⟨gb102, 1, none⟩ = some (.slice A1_1 l1_1.length c1_1) := (blk_cell BK102.out 1).trans rfl; have hcz40_2 : w37.cell? ⟨gb102, 2, none⟩ = some (.int .i64 a1_2) := (blk_cell BK102.out 2).trans rfl; have hcz40_3 : w37.cell? ⟨gb102, 3, none⟩ = some (.int .i64 a1_3) := (blk_cell BK102.out 3).trans rfl; have hcz40_4 : w37.cell? ⟨gb102, 4, none⟩ = some (.int .i64 a1_4) := (blk_cell BK102.out 4).trans rfl; have hcz40_5 : w37.cell? ⟨gb102, 5, none⟩ = some (.slice A1_5 l1_5.length c1_5) := (blk_cell BK102.out 5).trans rfl; have hfz40_0 := blk_frozen BK102.out 0; have hfz40_1 := blk_frozen BK102.out 1; have hfz40_2 := blk_frozen BK102.out 2; have hfz40_3 := blk_frozen BK102.out 3; have hfz40_4 := blk_frozen BK102.out 4; have hfz40_5 := blk_frozen BK102.out 5) | ((with_reducible refine gate_callee (f := 10) rfl ?_); refine goesL_ (some 9) rfl rfl Try.func10 (by kernel_rfl) rfl #[.slice A0_0 l0_0.length c0_0, .slice A1_0 l1_0.length c1_0] rfl qz3_ ?_; (with_reducible refine (laws_eqExtSS.calls k _ _ l0_0 _ _ l1_0 true _ ?side1 ?side2 ?side3 ?side4 A3.out).mono ?_); (case side1 => exact qc_ (Kd.C_below HR0_0.out HB.out)); (case side2 => exact HC0_0.out); (case side3 => exact qc_ (Kd.C_below HR1_0.out HB.out)); (case side4 => exact HC1_0.out); rintro e w41 ⟨rfl, hb⟩; refine ⟨_, rfl, ?_⟩; have n0_ := am_ (blk_below (g := gb101) (o := .cells #[.slice A0_0 l0_0.length c0_0, .slice A0_1 l0_1.length c0_1, .int .i64 a0_2, .int .i64 a0_3, .int .i64 a0_4, .slice A0_5 l0_5.length c0_5] 47 (0, 0)) qz7_ hb); have n1_ := am_ (blk_below (g := gb102) (o := .cells #[.slice A1_0 l1_0.length c1_0, .slice A1_1 l1_1.length c1_1, .int .i64 a1_2, .int .i64 a1_3, .int .i64 a1_4, .slice A1_5 l1_5.length c1_5] 47 (0, 0)) qz8_ hb); have n2_ := am_ (below_step qz9_ hb); clear BK101; clear BK102; clear HB; have BK101 := n0_; have BK102 := n1_; have HB := n2_; clear n0_ n1_ n2_; (try clear hb); (try clear hb2); (try clear hk); (try clear hi); have hcz42_0 : w41.cell? ⟨gb101, 0, none⟩ = some (.slice A0_0 l0_0.length c0_0) := (blk_cell BK101.out 0).trans rfl; have hcz42_1 : w41.cell? ⟨gb101, 1, none⟩ = some (.slice A0_1 l0_1.length c0_1) := (blk_cell BK101.out 1).trans rfl; have hcz42_2 : w41.cell? ⟨gb101, 2, none⟩ = some (.int .i64 a0_2) := (blk_cell BK101.out 2).trans rfl; have hcz42_3 : w41.cell? ⟨gb101, 3, none⟩ = some (.int .i64 a0_3) := (blk_cell BK101.out 3).trans rfl; have hcz42_4 : w41.cell? ⟨gb101, 4, none⟩ = some (.int .i64 a0_4) := (blk_cell BK101.out 4).trans rfl; have hcz42_5 : w41.cell? ⟨gb101, 5, none⟩ = some (.slice A0_5 l0_5.length c0_5) := (blk_cell BK101.out 5).trans rfl; have hfz42_0 := blk_frozen BK101.out 0; have hfz42_1 := blk_frozen BK101.out 1; have hfz42_2 := blk_frozen BK101.out 2; have hfz42_3 := blk_frozen BK101.out 3; have hfz42_4 := blk_frozen BK101.out 4; have hfz42_5 := blk_frozen BK101.out 5; have hcz43_0 : w41.cell? ⟨gb102, 0, none⟩ = some (.slice A1_0 l1_0.length c1_0) := (blk_cell BK102.out 0).trans rfl; have hcz43_1 : w41.cell? ⟨gb102, 1, none⟩ = some (.slice A1_1 l1_1.length c1_1) := (blk_cell BK102.out 1).trans rfl; have hcz43_2 : w41.cell? ⟨gb102, 2, none⟩ = some (.int .i64 a1_2) := (blk_cell BK102.out 2).trans rfl; have hcz43_3 : w41.cell? ⟨gb102, 3, none⟩ = some (.int .i64 a1_3) := (blk_cell BK102.out 3).trans rfl; have hcz43_4 : w41.cell? ⟨gb102, 4, none⟩ = some (.int .i64 a1_4) := (blk_cell BK102.out 4).trans rfl; have hcz43_5 : w41.cell? ⟨gb102, 5, none⟩ = some (.slice A1_5 l1_5.length c1_5) := (blk_cell BK102.out 5).trans rfl; have hfz43_0 := blk_frozen BK102.out 0; have hfz43_1 := blk_frozen BK102.out 1; have hfz43_2 := blk_frozen BK102.out 2; have hfz43_3 := blk_frozen BK102.out 3; have hfz43_4 := blk_frozen BK102.out 4; have hfz43_5 := blk_frozen BK102.out 5) | ((with_reducible refine gate_callee (f := 45) rfl ?_); refine goesL_ (some 15) rfl rfl Try.func45 (by kernel_rfl) rfl #[.slice A0_1 l0_1.length c0_1, .slice A1_1 l1_1.length c1_1] rfl qz3_ ?_; (with_reducible refine (laws_eqStringS.calls k _ _ l0_1 _ _ l1_1 true _ ?side1 ?side2 ?side3 ?side4 A5.out).mono ?_); (case side1 => exact qc_ (Kd.C_below HR0_1.out HB.out)); (case side2 => exact HC0_1.out); (case side3 => exact qc_ (Kd.C_below HR1_1.out HB.out)); (case side4 => exact HC1_1.out); rintro e w' ⟨rfl, ⟨nd, rfl⟩⟩; refine ⟨_, rfl, ?_⟩) | ((with_reducible refine gate_callee (f := 26) rfl ?_); refine goesL_ (some 21) rfl rfl Try.func26 (by kernel_rfl) rfl #[.agg #[.int .i64 a0_2, .int .i64 a0_3], .agg #[.int .i64 a1_2, .int .i64 a1_3]] rfl qz3_ ?_; (with_reducible refine (laws_eqExt.calls a0_2 a0_3 a1_2 a1_3 true _ A7.out).mono ?_); rintro e w44 ⟨rfl, hb⟩; refine ⟨_, rfl, ?_⟩; have n0_ := am_ (blk_below (g := gb101) (o := .cells #[.slice A0_0 l0_0.length c0_0, .slice A0_1 l0_1.length c0_1, .int .i64 a0_2, .int .i64 a0_3, .int .i64 a0_4, .slice A0_5 l0_5.length c0_5] 47 (0, 0)) qz7_ hb); have n1_ := am_ (blk_below (g := gb102) (o := .cells #[.slice A1_0 l1_0.length c1_0, .slice A1_1 l1_1.length c1_1, .int .i64 a1_2, .int .i64 a1_3, .int .i64 a1_4, .slice A1_5 l1_5.length c1_5] 47 (0, 0)) qz8_ hb); have n2_ := am_ (below_step qz9_ hb); clear BK101; clear BK102; clear HB; have BK101 := n0_; have BK102 := n1_; have HB := n2_; clear n0_ n1_ n2_; (try clear hb); (try clear hb2); (try clear hk); (try clear hi); have hcz45_0 : w44.cell? ⟨gb101, 0, none⟩ = some (.slice A0_0 l0_0.length c0_0) := (blk_cell BK101.out 0).trans rfl; have hcz45_1 : w44.cell? ⟨gb101, 1, none⟩ = some (.slice A0_1 l0_1.length c0_1) := (blk_cell BK101.out 1).trans rfl; have hcz45_2 : w44.cell? ⟨gb101, 2, none⟩ = some (.int .i64 a0_2) := (blk_cell BK101.out 2).trans rfl; have hcz45_3 : w44.cell? ⟨gb101, 3, none⟩ = some (.int .i64 a0_3) := (blk_cell BK101.out 3).trans rfl; have hcz45_4 : w44.cell? ⟨gb101, 4, none⟩ = some (.int .i64 a0_4) := (blk_cell BK101.out 4).trans rfl; have hcz45_5 : w44.cell? ⟨gb101, 5, none⟩ = some (.slice A0_5 l0_5.length c0_5) := (blk_cell BK101.out 5).trans rfl; have hfz45_0 := blk_frozen BK101.out 0; have hfz45_1 := blk_frozen BK101.out 1; have hfz45_2 := blk_frozen BK101.out 2; have hfz45_3 := blk_frozen BK101.out 3; have hfz45_4 := blk_frozen BK101.out 4; have hfz45_5 := blk_frozen BK101.out 5; have hcz46_0 : w44.cell? ⟨gb102, 0, none⟩ = some (.slice A1_0 l1_0.length c1_0) := (blk_cell BK102.out 0).trans rfl; have hcz46_1 : w44.cell? ⟨gb102, 1, none⟩ = some (.slice A1_1 l1_1.length c1_1) := (blk_cell BK102.out 1).trans rfl; have hcz46_2 : w44.cell? ⟨gb102, 2, none⟩ = some (.int .i64 a1_2) := (blk_cell BK102.out 2).trans rfl; have hcz46_3 : w44.cell? ⟨gb102, 3, none⟩ = some (.int .i64 a1_3) := (blk_cell BK102.out 3).trans rfl; have hcz46_4 : w44.cell? ⟨gb102, 4, none⟩ = some (.int .i64 a1_4) := (blk_cell BK102.out 4).trans rfl; have hcz46_5 : w44.cell? ⟨gb102, 5, none⟩ = some (.slice A1_5 l1_5.length c1_5) := (blk_cell BK102.out 5).trans rfl; have hfz46_0 := blk_frozen BK102.out 0; have hfz46_1 := blk_frozen BK102.out 1; have hfz46_2 := blk_frozen BK102.out 2; have hfz46_3 := blk_frozen BK102.out 3; have hfz46_4 := blk_frozen BK102.out 4; have hfz46_5 := blk_frozen BK102.out 5))
     go_ret
     exact ⟨qz5_, qz9_⟩
   ·
    replace c8 := Bool.eq_false_iff.mpr c8
    subst c8
    have H1 : (some false) = some r := by rw [if_neg (show ¬ (false = true) by decide)] at H; exact H
    clear H
    have H := H1
    clear H1
    obtain rfl := Option.some.inj H
    go_enter Try.func19, Try.ntmps19
    go_wp2_with (first | ((with_reducible refine gate_dst (N := 2) rfl ?_); refine box_event ?hg (N := 2) ?hd (cs := #[.slice A0_0 l0_0.length c0_0, .slice A0_1 l0_1.length c0_1, .int .i64 a0_2, .int .i64 a0_3, .int .i64 a0_4, .slice A0_5 l0_5.length c0_5]) (t := 47) ?hr ?_; (case hd => rfl); (case hg => rfl); (case hr => first | (go_simp; done) | (go_simp; rfl)); intro gb101 hg w47 hbox hb; have n0_ := am_ (below_step qz4_ hb); have n1_ := am_ (hbox); have n2_ := am_ ((by rw [hg]; exact (below_size qz4_) : w.heap.size ≤ gb101)); have n3_ := am_ ((by rw [hg]; exact (below_size qz4_) : w.heap.size ≤ gb101)); clear HB; have HB := n0_; have BK101 := n1_; have GW101 := n2_; have GE101 := n3_; clear n0_ n1_ n2_ n3_; clear hb hbox hg) | ((with_reducible refine gate_dst (N := 3) rfl ?_); refine box_event ?hg (N := 3) ?hd (cs := #[.slice A1_0 l1_0.length c1_0, .slice A1_1 l1_1.length c1_1, .int .i64 a1_2, .int .i64 a1_3, .int .i64 a1_4, .slice A1_5 l1_5.length c1_5]) (t := 47) ?hr ?_; (case hd => rfl); (case hg => rfl); (case hr => first | (go_simp; done) | (go_simp; rfl)); intro gb102 hg w48 hbox hb; have n0_ := am_ (blk_below (g := gb101) (o := .cells #[.slice A0_0 l0_0.length c0_0, .slice A0_1 l0_1.length c0_1, .int .i64 a0_2, .int .i64 a0_3, .int .i64 a0_4, .slice A0_5 l0_5.length c0_5] 47 (0, 0)) qz7_ hb); have n1_ := am_ (below_step qz6_ hb); have n2_ := am_ (hbox); have n3_ := am_ ((by rw [hg]; exact (below_size qz6_) : w.heap.size ≤ gb102)); have n4_ := am_ ((by rw [hg]; exact (below_size qz6_) : w.heap.size ≤ gb102)); have n5_ := am_ ((by rw [hg]; exact Nat.ne_of_lt (blk_lt (g := gb101) (o := .cells #[.slice A0_0 l0_0.length c0_0, .slice A0_1 l0_1.length c0_1, .int .i64 a0_2, .int .i64 a0_3, .int .i64 a0_4, .slice A0_5 l0_5.length c0_5] 47 (0, 0)) qz7_) : gb101 ≠ gb102)); have n6_ := am_ ((by rw [hg]; exact Nat.ne_of_gt (blk_lt (g := gb101) (o := .cells #[.slice A0_0 l0_0.length c0_0, .slice A0_1 l0_1.length c0_1, .int .i64 a0_2, .int .i64 a0_3, .int .i64 a0_4, .slice A0_5 l0_5.length c0_5] 47 (0, 0)) qz7_) : gb102 ≠ gb101)); clear BK101; clear HB; have BK101 := n0_; have HB := n1_; have BK102 := n2_; have GW102 := n3_; have GE102 := n4_; have NB101_102 := n5_; have NB102_101 := n6_; clear n0_ n1_ n2_ n3_ n4_ n5_ n6_; clear hb hbox hg; have hnb49 := NB101_102.out; have hnc49 := NB102_101.out; have hcz50_0 : w48.cell? ⟨gb101, 0, none⟩ = some (.slice A0_0 l0_0.length c0_0) := (blk_cell BK101.out 0).trans rfl; have hcz50_1 : w48.cell? ⟨gb101, 1, none⟩ = some (.slice A0_1 l0_1.length c0_1) := (blk_cell BK101.out 1).trans rfl; have hcz50_2 : w48.cell? ⟨gb101, 2, none⟩ = some (.int .i64 a0_2) := (blk_cell BK101.out 2).trans rfl; have hcz50_3 : w48.cell? ⟨gb101, 3, none⟩ = some (.int .i64 a0_3) := (blk_cell BK101.out 3).trans rfl; have hcz50_4 : w48.cell? ⟨gb101, 4, none⟩ = some (.int .i64 a0_4) := (blk_cell BK101.out 4).trans rfl; have hcz50_5 : w48.cell? ⟨gb101, 5, none⟩ = some (.slice A0_5 l0_5.length c0_5) := (blk_cell BK101.out 5).trans rfl; have hfz50_0 := blk_frozen BK101.out 0; have hfz50_1 := blk_frozen BK101.out 1; have hfz50_2 := blk_frozen BK101.out 2; have hfz50_3 := blk_frozen BK101.out 3; have hfz50_4 := blk_frozen BK101.out 4; have hfz50_5 := blk_frozen BK101.out 5; have hcz51_0 : w48.cell? ⟨gb102, 0, none⟩ = some (.slice A1_0 l1_0.length c1_0) := (blk_cell BK102.out 0).trans rfl; have hcz51_1 : w48.cell? ⟨gb102, 1, none⟩ = some (.slice A1_1 l1_1.length c1_1) := (blk_cell BK102.out 1).trans rfl; have hcz51_2 : w48.cell? ⟨gb102, 2, none⟩ = some (.int .i64 a1_2) := (blk_cell BK102.out 2).trans rfl; have hcz51_3 : w48.cell? ⟨gb102, 3, none⟩ = some (.int .i64 a1_3) := (blk_cell BK102.out 3).trans rfl; have hcz51_4 : w48.cell? ⟨gb102, 4, none⟩ = some (.int .i64 a1_4) := (blk_cell BK102.out 4).trans rfl; have hcz51_5 : w48.cell? ⟨gb102, 5, none⟩ = some (.slice A1_5 l1_5.length c1_5) := (blk_cell BK102.out 5).trans rfl; have hfz51_0 := blk_frozen BK102.out 0; have hfz51_1 := blk_frozen BK102.out 1; have hfz51_2 := blk_frozen BK102.out 2; have hfz51_3 := blk_frozen BK102.out 3; have hfz51_4 := blk_frozen BK102.out 4; have hfz51_5 := blk_frozen BK102.out 5) | ((with_reducible refine gate_callee (f := 10) rfl ?_); refine goesL_ (some 9) rfl rfl Try.func10 (by kernel_rfl) rfl #[.slice A0_0 l0_0.length c0_0, .slice A1_0 l1_0.length c1_0] rfl qz3_ ?_; (with_reducible refine (laws_eqExtSS.calls k _ _ l0_0 _ _ l1_0 true _ ?side1 ?side2 ?side3 ?side4 A3.out).mono ?_); (case side1 => exact qc_ (Kd.C_below HR0_0.out HB.out)); (case side2 => exact HC0_0.out); (case side3 => exact qc_ (Kd.C_below HR1_0.out HB.out)); (case side4 => exact HC1_0.out); rintro e w52 ⟨rfl, hb⟩; refine ⟨_, rfl, ?_⟩; have n0_ := am_ (blk_below (g := gb101) (o := .cells #[.slice A0_0 l0_0.length c0_0, .slice A0_1 l0_1.length c0_1, .int .i64 a0_2, .int .i64 a0_3, .int .i64 a0_4, .slice A0_5 l0_5.length c0_5] 47 (0, 0)) qz7_ hb); have n1_ := am_ (blk_below (g := gb102) (o := .cells #[.slice A1_0 l1_0.length c1_0, .slice A1_1 l1_1.length c1_1, .int .i64 a1_2, .int .i64 a1_3, .int .i64 a1_4, .slice A1_5 l1_5.length c1_5] 47 (0, 0)) qz8_ hb); have n2_ := am_ (below_step qz9_ hb); clear BK101; clear BK102; clear HB; have BK101 := n0_; have BK102 := n1_; have HB := n2_; clear n0_ n1_ n2_; (try clear hb); (try clear hb2); (try clear hk); (try clear hi); have hcz53_0 : w52.cell? ⟨gb101, 0, none⟩ = some (.slice A0_0 l0_0.length c0_0) := (blk_cell BK101.out 0).trans rfl; have hcz53_1 : w52.cell? ⟨gb101, 1, none⟩ = some (.slice A0_1 l0_1.length c0_1) := (blk_cell BK101.out 1).trans rfl; have hcz53_2 : w52.cell? ⟨gb101, 2, none⟩ = some (.int .i64 a0_2) := (blk_cell BK101.out 2).trans rfl; have hcz53_3 : w52.cell? ⟨gb101, 3, none⟩ = some (.int .i64 a0_3) := (blk_cell BK101.out 3).trans rfl; have hcz53_4 : w52.cell? ⟨gb101, 4, none⟩ = some (.int .i64 a0_4) := (blk_cell BK101.out 4).trans rfl; have hcz53_5 : w52.cell? ⟨gb101, 5, none⟩ = some (.slice A0_5 l0_5.length c0_5) := (blk_cell BK101.out 5).trans rfl; have hfz53_0 := blk_frozen BK101.out 0; have hfz53_1 := blk_frozen BK101.out 1; have hfz53_2 := blk_frozen BK101.out 2; have hfz53_3 := blk_frozen BK101.out 3; have hfz53_4 := blk_frozen BK101.out 4; have hfz53_5 := blk_frozen BK101.out 5; have hcz54_0 : w52.cell? ⟨gb102, 0, none⟩ = some (.slice A1_0 l1_0.length c1_0) := (blk_cell BK102.out 0).trans rfl; have hcz54_1 : w52.cell? ⟨gb102, 1, none⟩ = some (.slice A1_1 l1_1.length c1_1) := (blk_cell BK102.out 1).trans rfl; have hcz54_2 : w52.cell? ⟨gb102, 2, none⟩ = some (.int .i64 a1_2) := (blk_cell BK102.out 2).trans rfl; have hcz54_3 : w52.cell? ⟨gb102, 3, none⟩ = some (.int .i64 a1_3) := (blk_cell BK102.out 3).trans rfl; have hcz54_4 : w52.cell? ⟨gb102, 4, none⟩ = some (.int .i64 a1_4) := (blk_cell BK102.out 4).trans rfl; have hcz54_5 : w52.cell? ⟨gb102, 5, none⟩ = some (.slice A1_5 l1_5.length c1_5) := (blk_cell BK102.out 5).trans rfl; have hfz54_0 := blk_frozen BK102.out 0; have hfz54_1 := blk_frozen BK102.out 1; have hfz54_2 := blk_frozen BK102.out 2; have hfz54_3 := blk_frozen BK102.out 3; have hfz54_4 := blk_frozen BK102.out 4; have hfz54_5 := blk_frozen BK102.out 5) | ((with_reducible refine gate_callee (f := 45) rfl ?_); refine goesL_ (some 15) rfl rfl Try.func45 (by kernel_rfl) rfl #[.slice A0_1 l0_1.length c0_1, .slice A1_1 l1_1.length c1_1] rfl qz3_ ?_; (with_reducible refine (laws_eqStringS.calls k _ _ l0_1 _ _ l1_1 true _ ?side1 ?side2 ?side3 ?side4 A5.out).mono ?_); (case side1 => exact qc_ (Kd.C_below HR0_1.out HB.out)); (case side2 => exact HC0_1.out); (case side3 => exact qc_ (Kd.C_below HR1_1.out HB.out)); (case side4 => exact HC1_1.out); rintro e w' ⟨rfl, ⟨nd, rfl⟩⟩; refine ⟨_, rfl, ?_⟩) | ((with_reducible refine gate_callee (f := 26) rfl ?_); refine goesL_ (some 21) rfl rfl Try.func26 (by kernel_rfl) rfl #[.agg #[.int .i64 a0_2, .int .i64 a0_3], .agg #[.int .i64 a1_2, .int .i64 a1_3]] rfl qz3_ ?_; (with_reducible refine (laws_eqExt.calls a0_2 a0_3 a1_2 a1_3 false _ A7.out).mono ?_); rintro e w55 ⟨rfl, hb⟩; refine ⟨_, rfl, ?_⟩; have n0_ := am_ (blk_below (g := gb101) (o := .cells #[.slice A0_0 l0_0.length c0_0, .slice A0_1 l0_1.length c0_1, .int .i64 a0_2, .int .i64 a0_3, .int .i64 a0_4, .slice A0_5 l0_5.length c0_5] 47 (0, 0)) qz7_ hb); have n1_ := am_ (blk_below (g := gb102) (o := .cells #[.slice A1_0 l1_0.length c1_0, .slice A1_1 l1_1.length c1_1, .int .i64 a1_2, .int .i64 a1_3, .int .i64 a1_4, .slice A1_5 l1_5.length c1_5] 47 (0, 0)) qz8_ hb); have n2_ := am_ (below_step qz9_ hb); clear BK101; clear BK102; clear HB; have BK101 := n0_; have BK102 := n1_; have HB := n2_; clear n0_ n1_ n2_; (try clear hb); (try clear hb2); (try clear hk); (try clear hi)))
    go_ret
    exact ⟨qz5_, qz9_⟩
  ·
   replace c6 := Bool.eq_false_iff.mpr c6
   subst c6
   have H1 : (some false) = some r := by rw [if_neg (show ¬ (false = true) by decide)] at H; exact H
   clear H
   have H := H1
   clear H1
   obtain rfl := Option.some.inj H
   go_enter Try.func19, Try.ntmps19
   go_wp2_with (first | ((with_reducible refine gate_dst (N := 2) rfl ?_); refine box_event ?hg (N := 2) ?hd (cs := #[.slice A0_0 l0_0.length c0_0, .slice A0_1 l0_1.length c0_1, .int .i64 a0_2, .int .i64 a0_3, .int .i64 a0_4, .slice A0_5 l0_5.length c0_5]) (t := 47) ?hr ?_; (case hd => rfl); (case hg => rfl); (case hr => first | (go_simp; done) | (go_simp; rfl)); intro gb101 hg w56 hbox hb; have n0_ := am_ (below_step qz4_ hb); have n1_ := am_ (hbox); have n2_ := am_ ((by rw [hg]; exact (below_size qz4_) : w.heap.size ≤ gb101)); have n3_ := am_ ((by rw [hg]; exact (below_size qz4_) : w.heap.size ≤ gb101)); clear HB; have HB := n0_; have BK101 := n1_; have GW101 := n2_; have GE101 := n3_; clear n0_ n1_ n2_ n3_; clear hb hbox hg) | ((with_reducible refine gate_dst (N := 3) rfl ?_); refine box_event ?hg (N := 3) ?hd (cs := #[.slice A1_0 l1_0.length c1_0, .slice A1_1 l1_1.length c1_1, .int .i64 a1_2, .int .i64 a1_3, .int .i64 a1_4, .slice A1_5 l1_5.length c1_5]) (t := 47) ?hr ?_; (case hd => rfl); (case hg => rfl); (case hr => first | (go_simp; done) | (go_simp; rfl)); intro gb102 hg w57 hbox hb; have n0_ := am_ (blk_below (g := gb101) (o := .cells #[.slice A0_0 l0_0.length c0_0, .slice A0_1 l0_1.length c0_1, .int .i64 a0_2, .int .i64 a0_3, .int .i64 a0_4, .slice A0_5 l0_5.length c0_5] 47 (0, 0)) qz7_ hb); have n1_ := am_ (below_step qz6_ hb); have n2_ := am_ (hbox); have n3_ := am_ ((by rw [hg]; exact (below_size qz6_) : w.heap.size ≤ gb102)); have n4_ := am_ ((by rw [hg]; exact (below_size qz6_) : w.heap.size ≤ gb102)); have n5_ := am_ ((by rw [hg]; exact Nat.ne_of_lt (blk_lt (g := gb101) (o := .cells #[.slice A0_0 l0_0.length c0_0, .slice A0_1 l0_1.length c0_1, .int .i64 a0_2, .int .i64 a0_3, .int .i64 a0_4, .slice A0_5 l0_5.length c0_5] 47 (0, 0)) qz7_) : gb101 ≠ gb102)); have n6_ := am_ ((by rw [hg]; exact Nat.ne_of_gt (blk_lt (g := gb101) (o := .cells #[.slice A0_0 l0_0.length c0_0, .slice A0_1 l0_1.length c0_1, .int .i64 a0_2, .int .i64 a0_3, .int .i64 a0_4, .slice A0_5 l0_5.length c0_5] 47 (0, 0)) qz7_) : gb102 ≠ gb101)); clear BK101; clear HB; have BK101 := n0_; have HB := n1_; have BK102 := n2_; have GW102 := n3_; have GE102 := n4_; have NB101_102 := n5_; have NB102_101 := n6_; clear n0_ n1_ n2_ n3_ n4_ n5_ n6_; clear hb hbox hg; have hnb58 := NB101_102.out; have hnc58 := NB102_101.out; have hcz59_0 : w57.cell? ⟨gb101, 0, none⟩ = some (.slice A0_0 l0_0.length c0_0) := (blk_cell BK101.out 0).trans rfl; have hcz59_1 : w57.cell? ⟨gb101, 1, none⟩ = some (.slice A0_1 l0_1.length c0_1) := (blk_cell BK101.out 1).trans rfl; have hcz59_2 : w57.cell? ⟨gb101, 2, none⟩ = some (.int .i64 a0_2) := (blk_cell BK101.out 2).trans rfl; have hcz59_3 : w57.cell? ⟨gb101, 3, none⟩ = some (.int .i64 a0_3) := (blk_cell BK101.out 3).trans rfl; have hcz59_4 : w57.cell? ⟨gb101, 4, none⟩ = some (.int .i64 a0_4) := (blk_cell BK101.out 4).trans rfl; have hcz59_5 : w57.cell? ⟨gb101, 5, none⟩ = some (.slice A0_5 l0_5.length c0_5) := (blk_cell BK101.out 5).trans rfl; have hfz59_0 := blk_frozen BK101.out 0; have hfz59_1 := blk_frozen BK101.out 1; have hfz59_2 := blk_frozen BK101.out 2; have hfz59_3 := blk_frozen BK101.out 3; have hfz59_4 := blk_frozen BK101.out 4; have hfz59_5 := blk_frozen BK101.out 5; have hcz60_0 : w57.cell? ⟨gb102, 0, none⟩ = some (.slice A1_0 l1_0.length c1_0) := (blk_cell BK102.out 0).trans rfl; have hcz60_1 : w57.cell? ⟨gb102, 1, none⟩ = some (.slice A1_1 l1_1.length c1_1) := (blk_cell BK102.out 1).trans rfl; have hcz60_2 : w57.cell? ⟨gb102, 2, none⟩ = some (.int .i64 a1_2) := (blk_cell BK102.out 2).trans rfl; have hcz60_3 : w57.cell? ⟨gb102, 3, none⟩ = some (.int .i64 a1_3) := (blk_cell BK102.out 3).trans rfl; have hcz60_4 : w57.cell? ⟨gb102, 4, none⟩ = some (.int .i64 a1_4) := (blk_cell BK102.out 4).trans rfl; have hcz60_5 : w57.cell? ⟨gb102, 5, none⟩ = some (.slice A1_5 l1_5.length c1_5) := (blk_cell BK102.out 5).trans rfl; have hfz60_0 := blk_frozen BK102.out 0; have hfz60_1 := blk_frozen BK102.out 1; have hfz60_2 := blk_frozen BK102.out 2; have hfz60_3 := blk_frozen BK102.out 3; have hfz60_4 := blk_frozen BK102.out 4; have hfz60_5 := blk_frozen BK102.out 5) | ((with_reducible refine gate_callee (f := 10) rfl ?_); refine goesL_ (some 9) rfl rfl Try.func10 (by kernel_rfl) rfl #[.slice A0_0 l0_0.length c0_0, .slice A1_0 l1_0.length c1_0] rfl qz3_ ?_; (with_reducible refine (laws_eqExtSS.calls k _ _ l0_0 _ _ l1_0 true _ ?side1 ?side2 ?side3 ?side4 A3.out).mono ?_); (case side1 => exact qc_ (Kd.C_below HR0_0.out HB.out)); (case side2 => exact HC0_0.out); (case side3 => exact qc_ (Kd.C_below HR1_0.out HB.out)); (case side4 => exact HC1_0.out); rintro e w61 ⟨rfl, hb⟩; refine ⟨_, rfl, ?_⟩; have n0_ := am_ (blk_below (g := gb101) (o := .cells #[.slice A0_0 l0_0.length c0_0, .slice A0_1 l0_1.length c0_1, .int .i64 a0_2, .int .i64 a0_3, .int .i64 a0_4, .slice A0_5 l0_5.length c0_5] 47 (0, 0)) qz7_ hb); have n1_ := am_ (blk_below (g := gb102) (o := .cells #[.slice A1_0 l1_0.length c1_0, .slice A1_1 l1_1.length c1_1, .int .i64 a1_2, .int .i64 a1_3, .int .i64 a1_4, .slice A1_5 l1_5.length c1_5] 47 (0, 0)) qz8_ hb); have n2_ := am_ (below_step qz9_ hb); clear BK101; clear BK102; clear HB; have BK101 := n0_; have BK102 := n1_; have HB := n2_; clear n0_ n1_ n2_; (try clear hb); (try clear hb2); (try clear hk); (try clear hi); have hcz62_0 : w61.cell? ⟨gb101, 0, none⟩ = some (.slice A0_0 l0_0.length c0_0) := (blk_cell BK101.out 0).trans rfl; have hcz62_1 : w61.cell? ⟨gb101, 1, none⟩ = some (.slice A0_1 l0_1.length c0_1) := (blk_cell BK101.out 1).trans rfl; have hcz62_2 : w61.cell? ⟨gb101, 2, none⟩ = some (.int .i64 a0_2) := (blk_cell BK101.out 2).trans rfl; have hcz62_3 : w61.cell? ⟨gb101, 3, none⟩ = some (.int .i64 a0_3) := (blk_cell BK101.out 3).trans rfl; have hcz62_4 : w61.cell? ⟨gb101, 4, none⟩ = some (.int .i64 a0_4) := (blk_cell BK101.out 4).trans rfl; have hcz62_5 : w61.cell? ⟨gb101, 5, none⟩ = some (.slice A0_5 l0_5.length c0_5) := (blk_cell BK101.out 5).trans rfl; have hfz62_0 := blk_frozen BK101.out 0; have hfz62_1 := blk_frozen BK101.out 1; have hfz62_2 := blk_frozen BK101.out 2; have hfz62_3 := blk_frozen BK101.out 3; have hfz62_4 := blk_frozen BK101.out 4; have hfz62_5 := blk_frozen BK101.out 5; have hcz63_0 : w61.cell? ⟨gb102, 0, none⟩ = some (.slice A1_0 l1_0.length c1_0) := (blk_cell BK102.out 0).trans rfl; have hcz63_1 : w61.cell? ⟨gb102, 1, none⟩ = some (.slice A1_1 l1_1.length c1_1) := (blk_cell BK102.out 1).trans rfl; have hcz63_2 : w61.cell? ⟨gb102, 2, none⟩ = some (.int .i64 a1_2) := (blk_cell BK102.out 2).trans rfl; have hcz63_3 : w61.cell? ⟨gb102, 3, none⟩ = some (.int .i64 a1_3) := (blk_cell BK102.out 3).trans rfl; have hcz63_4 : w61.cell? ⟨gb102, 4, none⟩ = some (.int .i64 a1_4) := (blk_cell BK102.out 4).trans rfl; have hcz63_5 : w61.cell? ⟨gb102, 5, none⟩ = some (.slice A1_5 l1_5.length c1_5) := (blk_cell BK102.out 5).trans rfl; have hfz63_0 := blk_frozen BK102.out 0; have hfz63_1 := blk_frozen BK102.out 1; have hfz63_2 := blk_frozen BK102.out 2; have hfz63_3 := blk_frozen BK102.out 3; have hfz63_4 := blk_frozen BK102.out 4; have hfz63_5 := blk_frozen BK102.out 5) | ((with_reducible refine gate_callee (f := 45) rfl ?_); refine goesL_ (some 15) rfl rfl Try.func45 (by kernel_rfl) rfl #[.slice A0_1 l0_1.length c0_1, .slice A1_1 l1_1.length c1_1] rfl qz3_ ?_; (with_reducible refine (laws_eqStringS.calls k _ _ l0_1 _ _ l1_1 false _ ?side1 ?side2 ?side3 ?side4 A5.out).mono ?_); (case side1 => exact qc_ (Kd.C_below HR0_1.out HB.out)); (case side2 => exact HC0_1.out); (case side3 => exact qc_ (Kd.C_below HR1_1.out HB.out)); (case side4 => exact HC1_1.out); rintro e w' ⟨rfl, ⟨nd, rfl⟩⟩; refine ⟨_, rfl, ?_⟩))
   go_ret
   exact ⟨qz5_, qz9_⟩
 ·
  replace c4 := Bool.eq_false_iff.mpr c4
  subst c4
  have H1 : (some false) = some r := by rw [if_neg (show ¬ (false = true) by decide)] at H; exact H
  clear H
  have H := H1
  clear H1
  obtain rfl := Option.some.inj H
  go_enter Try.func19, Try.ntmps19
  go_wp2_with (first | ((with_reducible refine gate_dst (N := 2) rfl ?_); refine box_event ?hg (N := 2) ?hd (cs := #[.slice A0_0 l0_0.length c0_0, .slice A0_1 l0_1.length c0_1, .int .i64 a0_2, .int .i64 a0_3, .int .i64 a0_4, .slice A0_5 l0_5.length c0_5]) (t := 47) ?hr ?_; (case hd => rfl); (case hg => rfl); (case hr => first | (go_simp; done) | (go_simp; rfl)); intro gb101 hg w64 hbox hb; have n0_ := am_ (below_step qz4_ hb); have n1_ := am_ (hbox); have n2_ := am_ ((by rw [hg]; exact (below_size qz4_) : w.heap.size ≤ gb101)); have n3_ := am_ ((by rw [hg]; exact (below_size qz4_) : w.heap.size ≤ gb101)); clear HB; have HB := n0_; have BK101 := n1_; have GW101 := n2_; have GE101 := n3_; clear n0_ n1_ n2_ n3_; clear hb hbox hg) | ((with_reducible refine gate_dst (N := 3) rfl ?_); refine box_event ?hg (N := 3) ?hd (cs := #[.slice A1_0 l1_0.length c1_0, .slice A1_1 l1_1.length c1_1, .int .i64 a1_2, .int .i64 a1_3, .int .i64 a1_4, .slice A1_5 l1_5.length c1_5]) (t := 47) ?hr ?_; (case hd => rfl); (case hg => rfl); (case hr => first | (go_simp; done) | (go_simp; rfl)); intro gb102 hg w65 hbox hb; have n0_ := am_ (blk_below (g := gb101) (o := .cells #[.slice A0_0 l0_0.length c0_0, .slice A0_1 l0_1.length c0_1, .int .i64 a0_2, .int .i64 a0_3, .int .i64 a0_4, .slice A0_5 l0_5.length c0_5] 47 (0, 0)) qz7_ hb); have n1_ := am_ (below_step qz6_ hb); have n2_ := am_ (hbox); have n3_ := am_ ((by rw [hg]; exact (below_size qz6_) : w.heap.size ≤ gb102)); have n4_ := am_ ((by rw [hg]; exact (below_size qz6_) : w.heap.size ≤ gb102)); have n5_ := am_ ((by rw [hg]; exact Nat.ne_of_lt (blk_lt (g := gb101) (o := .cells #[.slice A0_0 l0_0.length c0_0, .slice A0_1 l0_1.length c0_1, .int .i64 a0_2, .int .i64 a0_3, .int .i64 a0_4, .slice A0_5 l0_5.length c0_5] 47 (0, 0)) qz7_) : gb101 ≠ gb102)); have n6_ := am_ ((by rw [hg]; exact Nat.ne_of_gt (blk_lt (g := gb101) (o := .cells #[.slice A0_0 l0_0.length c0_0, .slice A0_1 l0_1.length c0_1, .int .i64 a0_2, .int .i64 a0_3, .int .i64 a0_4, .slice A0_5 l0_5.length c0_5] 47 (0, 0)) qz7_) : gb102 ≠ gb101)); clear BK101; clear HB; have BK101 := n0_; have HB := n1_; have BK102 := n2_; have GW102 := n3_; have GE102 := n4_; have NB101_102 := n5_; have NB102_101 := n6_; clear n0_ n1_ n2_ n3_ n4_ n5_ n6_; clear hb hbox hg; have hnb66 := NB101_102.out; have hnc66 := NB102_101.out; have hcz67_0 : w65.cell? ⟨gb101, 0, none⟩ = some (.slice A0_0 l0_0.length c0_0) := (blk_cell BK101.out 0).trans rfl; have hcz67_1 : w65.cell? ⟨gb101, 1, none⟩ = some (.slice A0_1 l0_1.length c0_1) := (blk_cell BK101.out 1).trans rfl; have hcz67_2 : w65.cell? ⟨gb101, 2, none⟩ = some (.int .i64 a0_2) := (blk_cell BK101.out 2).trans rfl; have hcz67_3 : w65.cell? ⟨gb101, 3, none⟩ = some (.int .i64 a0_3) := (blk_cell BK101.out 3).trans rfl; have hcz67_4 : w65.cell? ⟨gb101, 4, none⟩ = some (.int .i64 a0_4) := (blk_cell BK101.out 4).trans rfl; have hcz67_5 : w65.cell? ⟨gb101, 5, none⟩ = some (.slice A0_5 l0_5.length c0_5) := (blk_cell BK101.out 5).trans rfl; have hfz67_0 := blk_frozen BK101.out 0; have hfz67_1 := blk_frozen BK101.out 1; have hfz67_2 := blk_frozen BK101.out 2; have hfz67_3 := blk_frozen BK101.out 3; have hfz67_4 := blk_frozen BK101.out 4; have hfz67_5 := blk_frozen BK101.out 5; have hcz68_0 : w65.cell? ⟨gb102, 0, none⟩ = some (.slice A1_0 l1_0.length c1_0) := (blk_cell BK102.out 0).trans rfl; have hcz68_1 : w65.cell? ⟨gb102, 1, none⟩ = some (.slice A1_1 l1_1.length c1_1) := (blk_cell BK102.out 1).trans rfl; have hcz68_2 : w65.cell? ⟨gb102, 2, none⟩ = some (.int .i64 a1_2) := (blk_cell BK102.out 2).trans rfl; have hcz68_3 : w65.cell? ⟨gb102, 3, none⟩ = some (.int .i64 a1_3) := (blk_cell BK102.out 3).trans rfl; have hcz68_4 : w65.cell? ⟨gb102, 4, none⟩ = some (.int .i64 a1_4) := (blk_cell BK102.out 4).trans rfl; have hcz68_5 : w65.cell? ⟨gb102, 5, none⟩ = some (.slice A1_5 l1_5.length c1_5) := (blk_cell BK102.out 5).trans rfl; have hfz68_0 := blk_frozen BK102.out 0; have hfz68_1 := blk_frozen BK102.out 1; have hfz68_2 := blk_frozen BK102.out 2; have hfz68_3 := blk_frozen BK102.out 3; have hfz68_4 := blk_frozen BK102.out 4; have hfz68_5 := blk_frozen BK102.out 5) | ((with_reducible refine gate_callee (f := 10) rfl ?_); refine goesL_ (some 9) rfl rfl Try.func10 (by kernel_rfl) rfl #[.slice A0_0 l0_0.length c0_0, .slice A1_0 l1_0.length c1_0] rfl qz3_ ?_; (with_reducible refine (laws_eqExtSS.calls k _ _ l0_0 _ _ l1_0 false _ ?side1 ?side2 ?side3 ?side4 A3.out).mono ?_); (case side1 => exact qc_ (Kd.C_below HR0_0.out HB.out)); (case side2 => exact HC0_0.out); (case side3 => exact qc_ (Kd.C_below HR1_0.out HB.out)); (case side4 => exact HC1_0.out); rintro e w69 ⟨rfl, hb⟩; refine ⟨_, rfl, ?_⟩; have n0_ := am_ (blk_below (g := gb101) (o := .cells #[.slice A0_0 l0_0.length c0_0, .slice A0_1 l0_1.length c0_1, .int .i64 a0_2, .int .i64 a0_3, .int .i64 a0_4, .slice A0_5 l0_5.length c0_5] 47 (0, 0)) qz7_ hb); have n1_ := am_ (blk_below (g := gb102) (o := .cells #[.slice A1_0 l1_0.length c1_0, .slice A1_1 l1_1.length c1_1, .int .i64 a1_2, .int .i64 a1_3, .int .i64 a1_4, .slice A1_5 l1_5.length c1_5] 47 (0, 0)) qz8_ hb); have n2_ := am_ (below_step qz9_ hb); clear BK101; clear BK102; clear HB; have BK101 := n0_; have BK102 := n1_; have HB := n2_; clear n0_ n1_ n2_; (try clear hb); (try clear hb2); (try clear hk); (try clear hi)))
  go_ret
  exact ⟨qz5_, qz9_⟩

end Go.Proofs.Ytcfdefkpheeibaa.PT
end
section
namespace Go.Proofs.Ytcfdefkpheeibaa.PT
open Go.RowKit Go.Proofs.YtcfdefkpheeibaaW.PrintWords Go.Proofs.YtcfdefkpheeibaaW.PrintLast Go.Proofs.YtcfdefkpheeibaaW.PrintMore
attribute [local go_sem] max2_int min2_int max_two min_two max_three min_three max_four min_four   -- for this text's walks alone
set_option linter.unusedVariables false
set_option linter.unusedSimpArgs false

/-! ### laws_FnExactOpeningOK: function 4 -/
def laws_FnExactOpeningOK.f (k : Nat) (l0_0 : List (List (S36))) (l0_1 : List ByteArray) (a0_2 : Int) (a0_3 : Int) (a0_4 : Int) (l0_5 : List (S86)) (a1 : Int) (a2_0 : Int) (a2_1 : Int) (a2_2 : Int) : Option (Bool) := (laws_szOpening.f k l0_0 l0_1 a0_2 a0_3 a0_4 l0_5 1048576).bind fun t103 => (if t103 < 0 then (some true) else ((laws_toOpening.f k l0_0 l0_1 a0_2 a0_3 a0_4 l0_5).bind fun bt104 => ((laws_toSetting.f a2_0 a2_1 a2_2).bind fun bt116 => ((spec_OpeningOK.f k bt104.1 bt104.2.1 bt104.2.2.1 bt104.2.2.2.1 bt104.2.2.2.2.1 bt104.2.2.2.2.2 a1 bt116.1 bt116.2.1 bt116.2.2).bind fun t119 => ((laws_toOpening.f k l0_0 l0_1 a0_2 a0_3 a0_4 l0_5).bind fun bt120 => ((laws_toSetting.f a2_0 a2_1 a2_2).bind fun bt133 => ((impl_OpeningOK.f k bt120.1 bt120.2.1 bt120.2.2.1 bt120.2.2.2.1 bt120.2.2.2.2.1 bt120.2.2.2.2.2 a1 bt133.1 bt133.2.1 bt133.2.2).bind fun t136 => (if (t136 != t119) = true then (some false) else ((laws_toOpening.f k l0_0 l0_1 a0_2 a0_3 a0_4 l0_5).bind fun bt137 => ((laws_eqOpening.f k bt120.1 bt120.2.1 bt120.2.2.1 bt120.2.2.2.1 bt120.2.2.2.2.1 bt120.2.2.2.2.2 bt137.1 bt137.2.1 bt137.2.2.1 bt137.2.2.2.1 bt137.2.2.2.2.1 bt137.2.2.2.2.2).bind fun t149 => (if t149 = true then (some true) else (some false))))))))))))
theorem laws_FnExactOpeningOK.mono : ∀ a0 a1 a2 a3 a4 a5 a6 a7 a8 a9 k, LeO (laws_FnExactOpeningOK.f k a0 a1 a2 a3 a4 a5 a6 a7 a8 a9) (laws_FnExactOpeningOK.f (k + 1) a0 a1 a2 a3 a4 a5 a6 a7 a8 a9) := by
 intro a0 a1 a2 a3 a4 a5 a6 a7 a8 a9 k
 unfold laws_FnExactOpeningOK.f
 repeat' first
   | (with_reducible exact impl_OpeningOK.mono _ _ _ _ _ _ _ _ _ _ _)
   | (with_reducible exact laws_eqOpening.mono _ _ _ _ _ _ _ _ _ _ _ _ _)
   | (with_reducible exact laws_szOpening.mono _ _ _ _ _ _ _ _)
   | (with_reducible exact laws_toOpening.mono _ _ _ _ _ _ _)
   | (with_reducible exact spec_OpeningOK.mono _ _ _ _ _ _ _ _ _ _ _)
   | (with_reducible exact LeO.refl _)
   | (with_reducible exact LeO.none _)
   | (with_reducible refine LeO.ite ?_ ?_)
   | (with_reducible refine LeO.bind ?_ (fun _ => ?_))
   | exact impl_OpeningOK.mono _ _ _ _ _ _ _ _ _ _ _
   | exact laws_eqOpening.mono _ _ _ _ _ _ _ _ _ _ _ _ _
   | exact laws_szOpening.mono _ _ _ _ _ _ _ _
   | exact laws_toOpening.mono _ _ _ _ _ _ _
   | exact spec_OpeningOK.mono _ _ _ _ _ _ _ _ _ _ _
   | exact LeO.none _
   | refine LeO.ite ?_ ?_
   | refine LeO.bind ?_ (fun _ => ?_)
set_option maxHeartbeats 8000000 in
set_option maxRecDepth 100000 in
theorem laws_FnExactOpeningOK.calls (k : Nat) (A0_0 : Option Addr) (c0_0 : Nat) (l0_0 : List (List (S36))) (A0_1 : Option Addr) (c0_1 : Nat) (l0_1 : List ByteArray) (a0_2 : Int) (a0_3 : Int) (a0_4 : Int) (A0_5 : Option Addr) (c0_5 : Nat) (l0_5 : List (S86)) (a1 : Int) (a2_0 : Int) (a2_1 : Int) (a2_2 : Int) (r : Bool) (w : World) (hr0_0 : Kd.C (Kd.slice 36 k36) w A0_0 l0_0.length l0_0) (hc0_0 : l0_0.length ≤ c0_0) (hr0_1 : Kd.C Kd.string w A0_1 l0_1.length l0_1) (hc0_1 : l0_1.length ≤ c0_1) (hr0_5 : Kd.C k86 w A0_5 l0_5.length l0_5) (hc0_5 : l0_5.length ≤ c0_5) (hr_ : r = true) (h : laws_FnExactOpeningOK.f k l0_0 l0_1 a0_2 a0_3 a0_4 l0_5 a1 a2_0 a2_1 a2_2 = some r) :
  Calls Try.prog 4 #[.agg #[.slice A0_0 l0_0.length c0_0, .slice A0_1 l0_1.length c0_1, .int .i64 a0_2, .int .i64 a0_3, .int .i64 a0_4, .slice A0_5 l0_5.length c0_5], .int .i64 a1, .agg #[.int .i64 a2_0, .int .i64 a2_1, .int .i64 a2_2]] w fun e w' => e = .returned (.bool r) ∧ Below w.heap.size w w' := by
 have hu39 := Try.underlying39
 have hu41 := Try.underlying41
 have hu47 := Try.underlying47
 have HR0_0 := am_ hr0_0
 have HC0_0 := am_ hc0_0
 clear hr0_0 hc0_0
 have HR0_1 := am_ hr0_1
 have HC0_1 := am_ hc0_1
 clear hr0_1 hc0_1
 have HR0_5 := am_ hr0_5
 have HC0_5 := am_ hc0_5
 clear hr0_5 hc0_5
 have HB := am_ (Below.refl w.heap.size w)
 have H : ((laws_szOpening.f k l0_0 l0_1 a0_2 a0_3 a0_4 l0_5 1048576).bind fun t103 => (if t103 < 0 then (some true) else ((laws_toOpening.f k l0_0 l0_1 a0_2 a0_3 a0_4 l0_5).bind fun bt104 => ((laws_toSetting.f a2_0 a2_1 a2_2).bind fun bt116 => ((spec_OpeningOK.f k bt104.1 bt104.2.1 bt104.2.2.1 bt104.2.2.2.1 bt104.2.2.2.2.1 bt104.2.2.2.2.2 a1 bt116.1 bt116.2.1 bt116.2.2).bind fun t119 => ((laws_toOpening.f k l0_0 l0_1 a0_2 a0_3 a0_4 l0_5).bind fun bt120 => ((laws_toSetting.f a2_0 a2_1 a2_2).bind fun bt133 => ((impl_OpeningOK.f k bt120.1 bt120.2.1 bt120.2.2.1 bt120.2.2.2.1 bt120.2.2.2.2.1 bt120.2.2.2.2.2 a1 bt133.1 bt133.2.1 bt133.2.2).bind fun t136 => (if (t136 != t119) = true then (some false) else ((laws_toOpening.f k l0_0 l0_1 a0_2 a0_3 a0_4 l0_5).bind fun bt137 => ((laws_eqOpening.f k bt120.1 bt120.2.1 bt120.2.2.1 bt120.2.2.2.1 bt120.2.2.2.2.1 bt120.2.2.2.2.2 bt137.1 bt137.2.1 bt137.2.2.1 bt137.2.2.2.1 bt137.2.2.2.2.1 bt137.2.2.2.2.2).bind fun t149 => (if t149 = true then (some true) else (some false))))))))))))) = some r := h
 clear h
 replace H := Option.bind_eq_some_iff.mp H
 obtain ⟨t103, A40, H⟩ := H
 replace H : (if t103 < 0 then (some true) else ((laws_toOpening.f k l0_0 l0_1 a0_2 a0_3 a0_4 l0_5).bind fun bt104 => ((laws_toSetting.f a2_0 a2_1 a2_2).bind fun bt116 => ((spec_OpeningOK.f k bt104.1 bt104.2.1 bt104.2.2.1 bt104.2.2.2.1 bt104.2.2.2.2.1 bt104.2.2.2.2.2 a1 bt116.1 bt116.2.1 bt116.2.2).bind fun t119 => ((laws_toOpening.f k l0_0 l0_1 a0_2 a0_3 a0_4 l0_5).bind fun bt120 => ((laws_toSetting.f a2_0 a2_1 a2_2).bind fun bt133 => ((impl_OpeningOK.f k bt120.1 bt120.2.1 bt120.2.2.1 bt120.2.2.2.1 bt120.2.2.2.2.1 bt120.2.2.2.2.2 a1 bt133.1 bt133.2.1 bt133.2.2).bind fun t136 => (if (t136 != t119) = true then (some false) else ((laws_toOpening.f k l0_0 l0_1 a0_2 a0_3 a0_4 l0_5).bind fun bt137 => ((laws_eqOpening.f k bt120.1 bt120.2.1 bt120.2.2.1 bt120.2.2.2.1 bt120.2.2.2.2.1 bt120.2.2.2.2.2 bt137.1 bt137.2.1 bt137.2.2.1 bt137.2.2.2.1 bt137.2.2.2.2.1 bt137.2.2.2.2.2).bind fun t149 => (if t149 = true then (some true) else (some false)))))))))))) = some r := H
 have A4 := am_ A40
 clear A40
 by_cases c5 : t103 < 0
 ·
  rw [if_pos c5] at H
  have c5b0 : decide (t103 < 0) = true := decide_eq_true c5
  clear c5
  obtain rfl := Option.some.inj H
  go_enter Try.func4, Try.ntmps4
  go_wp2_with (first | ((with_reducible refine gate_dst (N := 3) rfl ?_); refine box_event ?hg (N := 3) ?hd (cs := #[.slice A0_0 l0_0.length c0_0, .slice A0_1 l0_1.length c0_1, .int .i64 a0_2, .int .i64 a0_3, .int .i64 a0_4, .slice A0_5 l0_5.length c0_5]) (t := 39) ?hr ?_; (case hd => rfl); (case hg => rfl); (case hr => first | (go_simp; done) | (go_simp; rfl)); intro gb101 hg w6 hbox hb; have n0_ := am_ (below_step qz4_ hb); have n1_ := am_ (hbox); have n2_ := am_ ((by rw [hg]; exact (below_size qz4_) : w.heap.size ≤ gb101)); have n3_ := am_ ((by rw [hg]; exact (below_size qz4_) : w.heap.size ≤ gb101)); clear HB; have HB := n0_; have BK101 := n1_; have GW101 := n2_; have GE101 := n3_; clear n0_ n1_ n2_ n3_; clear hb hbox hg) | ((with_reducible refine gate_dst (N := 5) rfl ?_); refine box_event ?hg (N := 5) ?hd (cs := #[.int .i64 a2_0, .int .i64 a2_1, .int .i64 a2_2]) (t := 41) ?hr ?_; (case hd => rfl); (case hg => rfl); (case hr => first | (go_simp; done) | (go_simp; rfl)); intro gb102 hg w7 hbox hb; have n0_ := am_ (blk_below (g := gb101) (o := .cells #[.slice A0_0 l0_0.length c0_0, .slice A0_1 l0_1.length c0_1, .int .i64 a0_2, .int .i64 a0_3, .int .i64 a0_4, .slice A0_5 l0_5.length c0_5] 39 (0, 0)) qz7_ hb); have n1_ := am_ (below_step qz6_ hb); have n2_ := am_ (hbox); have n3_ := am_ ((by rw [hg]; exact (below_size qz6_) : w.heap.size ≤ gb102)); have n4_ := am_ ((by rw [hg]; exact (below_size qz6_) : w.heap.size ≤ gb102)); have n5_ := am_ ((by rw [hg]; exact Nat.ne_of_lt (blk_lt (g := gb101) (o := .cells #[.slice A0_0 l0_0.length c0_0, .slice A0_1 l0_1.length c0_1, .int .i64 a0_2, .int .i64 a0_3, .int .i64 a0_4, .slice A0_5 l0_5.length c0_5] 39 (0, 0)) qz7_) : gb101 ≠ gb102)); have n6_ := am_ ((by rw [hg]; exact Nat.ne_of_gt (blk_lt (g := gb101) (o := .cells #[.slice A0_0 l0_0.length c0_0, .slice A0_1 l0_1.length c0_1, .int .i64 a0_2, .int .i64 a0_3, .int .i64 a0_4, .slice A0_5 l0_5.length c0_5] 39 (0, 0)) qz7_) : gb102 ≠ gb101)); clear BK101; clear HB; have BK101 := n0_; have HB := n1_; have BK102 := n2_; have GW102 := n3_; have GE102 := n4_; have NB101_102 := n5_; have NB102_101 := n6_; clear n0_ n1_ n2_ n3_ n4_ n5_ n6_; clear hb hbox hg; have hnb8 := NB101_102.out; have hnc8 := NB102_101.out; have hcz9_0 : w7.cell? ⟨gb101, 0, none⟩ = some (.slice A0_0 l0_0.length c0_0) := (blk_cell BK101.out 0).trans rfl; have hcz9_1 : w7.cell? ⟨gb101, 1, none⟩ = some (.slice A0_1 l0_1.length c0_1) := (blk_cell BK101.out 1).trans rfl; have hcz9_2 : w7.cell? ⟨gb101, 2, none⟩ = some (.int .i64 a0_2) := (blk_cell BK101.out 2).trans rfl; have hcz9_3 : w7.cell? ⟨gb101, 3, none⟩ = some (.int .i64 a0_3) := (blk_cell BK101.out 3).trans rfl; have hcz9_4 : w7.cell? ⟨gb101, 4, none⟩ = some (.int .i64 a0_4) := (blk_cell BK101.out 4).trans rfl; have hcz9_5 : w7.cell? ⟨gb101, 5, none⟩ = some (.slice A0_5 l0_5.length c0_5) := (blk_cell BK101.out 5).trans rfl; have hfz9_0 := blk_frozen BK101.out 0; have hfz9_1 := blk_frozen BK101.out 1; have hfz9_2 := blk_frozen BK101.out 2; have hfz9_3 := blk_frozen BK101.out 3; have hfz9_4 := blk_frozen BK101.out 4; have hfz9_5 := blk_frozen BK101.out 5) | ((with_reducible refine gate_callee (f := 14) rfl ?_); refine goesL_ (some 13) rfl rfl Try.func14 (by kernel_rfl) rfl #[.agg #[.slice A0_0 l0_0.length c0_0, .slice A0_1 l0_1.length c0_1, .int .i64 a0_2, .int .i64 a0_3, .int .i64 a0_4, .slice A0_5 l0_5.length c0_5], .int .i64 1048576] rfl qz3_ ?_; (with_reducible refine (laws_szOpening.calls k _ _ l0_0 _ _ l0_1 a0_2 a0_3 a0_4 _ _ l0_5 1048576 t103 _ ?side1 ?side2 ?side3 ?side4 ?side5 ?side6 A4.out).mono ?_); (case side1 => exact qc_ (Kd.C_below HR0_0.out HB.out)); (case side2 => exact HC0_0.out); (case side3 => exact qc_ (Kd.C_below HR0_1.out HB.out)); (case side4 => exact HC0_1.out); (case side5 => exact qc_ (Kd.C_below HR0_5.out HB.out)); (case side6 => exact HC0_5.out); rintro e w10 ⟨rfl, hb⟩; refine ⟨_, rfl, ?_⟩; have n0_ := am_ (blk_below (g := gb101) (o := .cells #[.slice A0_0 l0_0.length c0_0, .slice A0_1 l0_1.length c0_1, .int .i64 a0_2, .int .i64 a0_3, .int .i64 a0_4, .slice A0_5 l0_5.length c0_5] 39 (0, 0)) qz7_ hb); have n1_ := am_ (blk_below (g := gb102) (o := .cells #[.int .i64 a2_0, .int .i64 a2_1, .int .i64 a2_2] 41 (0, 0)) qz8_ hb); have n2_ := am_ (below_step qz9_ hb); clear BK101; clear BK102; clear HB; have BK101 := n0_; have BK102 := n1_; have HB := n2_; clear n0_ n1_ n2_; (try clear hb); (try clear hb2); (try clear hk); (try clear hi)))
  go_ret
  exact ⟨qz5_, qz9_⟩
 ·
  rw [if_neg c5] at H
  have c5b0 : decide (t103 < 0) = false := decide_eq_false c5
  clear c5
  replace H := Option.bind_eq_some_iff.mp H
  obtain ⟨⟨t104, t107, t110, t111, t112, t113⟩, A110, H⟩ := H
  replace H : ((laws_toSetting.f a2_0 a2_1 a2_2).bind fun bt116 => ((spec_OpeningOK.f k t104 t107 t110 t111 t112 t113 a1 bt116.1 bt116.2.1 bt116.2.2).bind fun t119 => ((laws_toOpening.f k l0_0 l0_1 a0_2 a0_3 a0_4 l0_5).bind fun bt120 => ((laws_toSetting.f a2_0 a2_1 a2_2).bind fun bt133 => ((impl_OpeningOK.f k bt120.1 bt120.2.1 bt120.2.2.1 bt120.2.2.2.1 bt120.2.2.2.2.1 bt120.2.2.2.2.2 a1 bt133.1 bt133.2.1 bt133.2.2).bind fun t136 => (if (t136 != t119) = true then (some false) else ((laws_toOpening.f k l0_0 l0_1 a0_2 a0_3 a0_4 l0_5).bind fun bt137 => ((laws_eqOpening.f k bt120.1 bt120.2.1 bt120.2.2.1 bt120.2.2.2.1 bt120.2.2.2.2.1 bt120.2.2.2.2.2 bt137.1 bt137.2.1 bt137.2.2.1 bt137.2.2.2.1 bt137.2.2.2.2.1 bt137.2.2.2.2.2).bind fun t149 => (if t149 = true then (some true) else (some false)))))))))) = some r := H
  have A11 := am_ A110
  clear A110
  replace H := Option.bind_eq_some_iff.mp H
  obtain ⟨⟨t116, t117, t118⟩, A120, H⟩ := H
  replace H : ((spec_OpeningOK.f k t104 t107 t110 t111 t112 t113 a1 t116 t117 t118).bind fun t119 => ((laws_toOpening.f k l0_0 l0_1 a0_2 a0_3 a0_4 l0_5).bind fun bt120 => ((laws_toSetting.f a2_0 a2_1 a2_2).bind fun bt133 => ((impl_OpeningOK.f k bt120.1 bt120.2.1 bt120.2.2.1 bt120.2.2.2.1 bt120.2.2.2.2.1 bt120.2.2.2.2.2 a1 bt133.1 bt133.2.1 bt133.2.2).bind fun t136 => (if (t136 != t119) = true then (some false) else ((laws_toOpening.f k l0_0 l0_1 a0_2 a0_3 a0_4 l0_5).bind fun bt137 => ((laws_eqOpening.f k bt120.1 bt120.2.1 bt120.2.2.1 bt120.2.2.2.1 bt120.2.2.2.2.1 bt120.2.2.2.2.2 bt137.1 bt137.2.1 bt137.2.2.1 bt137.2.2.2.1 bt137.2.2.2.2.1 bt137.2.2.2.2.2).bind fun t149 => (if t149 = true then (some true) else (some false))))))))) = some r := H
  have A12 := am_ A120
  clear A120
  replace H := Option.bind_eq_some_iff.mp H
  obtain ⟨t119, A130, H⟩ := H
  replace H : ((laws_toOpening.f k l0_0 l0_1 a0_2 a0_3 a0_4 l0_5).bind fun bt120 => ((laws_toSetting.f a2_0 a2_1 a2_2).bind fun bt133 => ((impl_OpeningOK.f k bt120.1 bt120.2.1 bt120.2.2.1 bt120.2.2.2.1 bt120.2.2.2.2.1 bt120.2.2.2.2.2 a1 bt133.1 bt133.2.1 bt133.2.2).bind fun t136 => (if (t136 != t119) = true then (some false) else ((laws_toOpening.f k l0_0 l0_1 a0_2 a0_3 a0_4 l0_5).bind fun bt137 => ((laws_eqOpening.f k bt120.1 bt120.2.1 bt120.2.2.1 bt120.2.2.2.1 bt120.2.2.2.2.1 bt120.2.2.2.2.2 bt137.1 bt137.2.1 bt137.2.2.1 bt137.2.2.2.1 bt137.2.2.2.2.1 bt137.2.2.2.2.2).bind fun t149 => (if t149 = true then (some true) else (some false)))))))) = some r := H
  have A13 := am_ A130
  clear A130
  replace H := Option.bind_eq_some_iff.mp H
  obtain ⟨⟨t120, t123, t126, t127, t128, t129⟩, A140, H⟩ := H
  replace H : ((laws_toSetting.f a2_0 a2_1 a2_2).bind fun bt133 => ((impl_OpeningOK.f k t120 t123 t126 t127 t128 t129 a1 bt133.1 bt133.2.1 bt133.2.2).bind fun t136 => (if (t136 != t119) = true then (some false) else ((laws_toOpening.f k l0_0 l0_1 a0_2 a0_3 a0_4 l0_5).bind fun bt137 => ((laws_eqOpening.f k t120 t123 t126 t127 t128 t129 bt137.1 bt137.2.1 bt137.2.2.1 bt137.2.2.2.1 bt137.2.2.2.2.1 bt137.2.2.2.2.2).bind fun t149 => (if t149 = true then (some true) else (some false))))))) = some r := H
  have A14 := am_ A140
  clear A140
  replace H := Option.bind_eq_some_iff.mp H
  obtain ⟨⟨t133, t134, t135⟩, A150, H⟩ := H
  replace H : ((impl_OpeningOK.f k t120 t123 t126 t127 t128 t129 a1 t133 t134 t135).bind fun t136 => (if (t136 != t119) = true then (some false) else ((laws_toOpening.f k l0_0 l0_1 a0_2 a0_3 a0_4 l0_5).bind fun bt137 => ((laws_eqOpening.f k t120 t123 t126 t127 t128 t129 bt137.1 bt137.2.1 bt137.2.2.1 bt137.2.2.2.1 bt137.2.2.2.2.1 bt137.2.2.2.2.2).bind fun t149 => (if t149 = true then (some true) else (some false)))))) = some r := H
  have A15 := am_ A150
  clear A150
  replace H := Option.bind_eq_some_iff.mp H
  obtain ⟨t136, A160, H⟩ := H
  replace H : (if (t136 != t119) = true then (some false) else ((laws_toOpening.f k l0_0 l0_1 a0_2 a0_3 a0_4 l0_5).bind fun bt137 => ((laws_eqOpening.f k t120 t123 t126 t127 t128 t129 bt137.1 bt137.2.1 bt137.2.2.1 bt137.2.2.2.1 bt137.2.2.2.2.1 bt137.2.2.2.2.2).bind fun t149 => (if t149 = true then (some true) else (some false))))) = some r := H
  have A16 := am_ A160
  clear A160
  by_cases c17 : (t136 != t119) = true
  ·
   rw [if_pos c17] at H
   have c17b0 : (t136 != t119) = true := c17
   (try (have c17b1 : decide (t136 = t119) = false := by simpa using c17))
   (try (have c17b2 : (t136 == t119) = false := by simpa using c17))
   (try (have c17b3 : ¬ (t136 = t119) := by simpa using c17))
   clear c17
   exact absurd ((Option.some.inj H).trans hr_) (by decide)
  ·
   rw [if_neg c17] at H
   have c17b0 : (t136 != t119) = false := by simpa using c17
   (try (have c17b1 : decide (t136 = t119) = true := by simpa using c17))
   (try (have c17b2 : (t136 == t119) = true := by simpa using c17))
   clear c17
   replace H := Option.bind_eq_some_iff.mp H
   obtain ⟨⟨t137, t140, t143, t144, t145, t146⟩, A180, H⟩ := H
   replace H : ((laws_eqOpening.f k t120 t123 t126 t127 t128 t129 t137 t140 t143 t144 t145 t146).bind fun t149 => (if t149 = true then (some true) else (some false))) = some r := H
   have A18 := am_ A180
   clear A180
   replace H := Option.bind_eq_some_iff.mp H
   obtain ⟨t149, A190, H⟩ := H
   replace H : (if t149 = true then (some true) else (some false)) = some r := H
   have A19 := am_ A190
   clear A190
   by_cases c20 : t149 = true
   ·
    subst c20
    have H1 : (some true) = some r := by rw [if_pos rfl] at H; exact H
    clear H
    have H := H1
    clear H1
    obtain rfl := Option.some.inj H
    go_enter Try.func4, Try.ntmps4
    try go_wp2_with (first | ((with_reducible refine gate_dst (N := 3) rfl ?_); refine box_event ?hg (N := 3) ?hd (cs := #[.slice A0_0 l0_0.length c0_0, .slice A0_1 l0_1.length c0_1, .int .i64 a0_2, .int .i64 a0_3, .int .i64 a0_4, .slice A0_5 l0_5.length c0_5]) (t := 39) ?hr ?_; (case hd => rfl); (case hg => rfl); (case hr => first | (go_simp; done) | (go_simp; rfl)); intro gb101 hg w21 hbox hb; have n0_ := am_ (below_step qz4_ hb); have n1_ := am_ (hbox); have n2_ := am_ ((by rw [hg]; exact (below_size qz4_) : w.heap.size ≤ gb101)); have n3_ := am_ ((by rw [hg]; exact (below_size qz4_) : w.heap.size ≤ gb101)); clear HB; have HB := n0_; have BK101 := n1_; have GW101 := n2_; have GE101 := n3_; clear n0_ n1_ n2_ n3_; clear hb hbox hg) | ((with_reducible refine gate_dst (N := 5) rfl ?_); refine box_event ?hg (N := 5) ?hd (cs := #[.int .i64 a2_0, .int .i64 a2_1, .int .i64 a2_2]) (t := 41) ?hr ?_; (case hd => rfl); (case hg => rfl); (case hr => first | (go_simp; done) | (go_simp; rfl)); intro gb102 hg w22 hbox hb; have n0_ := am_ (blk_below (g := gb101) (o := .cells #[.slice A0_0 l0_0.length c0_0, .slice A0_1 l0_1.length c0_1, .int .i64 a0_2, .int .i64 a0_3, .int .i64 a0_4, .slice A0_5 l0_5.length c0_5] 39 (0, 0)) qz7_ hb); have n1_ := am_ (below_step qz6_ hb); have n2_ := am_ (hbox); have n3_ := am_ ((by rw [hg]; exact (below_size qz6_) : w.heap.size ≤ gb102)); have n4_ := am_ ((by rw [hg]; exact (below_size qz6_) : w.heap.size ≤ gb102)); have n5_ := am_ ((by rw [hg]; exact Nat.ne_of_lt (blk_lt (g := gb101) (o := .cells #[.slice A0_0 l0_0.length c0_0, .slice A0_1 l0_1.length c0_1, .int .i64 a0_2, .int .i64 a0_3, .int .i64 a0_4, .slice A0_5 l0_5.length c0_5] 39 (0, 0)) qz7_) : gb101 ≠ gb102)); have n6_ := am_ ((by rw [hg]; exact Nat.ne_of_gt (blk_lt (g := gb101) (o := .cells #[.slice A0_0 l0_0.length c0_0, .slice A0_1 l0_1.length c0_1, .int .i64 a0_2, .int .i64 a0_3, .int .i64 a0_4, .slice A0_5 l0_5.length c0_5] 39 (0, 0)) qz7_) : gb102 ≠ gb101)); clear BK101; clear HB; have BK101 := n0_; have HB := n1_; have BK102 := n2_; have GW102 := n3_; have GE102 := n4_; have NB101_102 := n5_; have NB102_101 := n6_; clear n0_ n1_ n2_ n3_ n4_ n5_ n6_; clear hb hbox hg; have hnb23 := NB101_102.out; have hnc23 := NB102_101.out; have hcz24_0 : w22.cell? ⟨gb101, 0, none⟩ = some (.slice A0_0 l0_0.length c0_0) := (blk_cell BK101.out 0).trans rfl; have hcz24_1 : w22.cell? ⟨gb101, 1, none⟩ = some (.slice A0_1 l0_1.length c0_1) := (blk_cell BK101.out 1).trans rfl; have hcz24_2 : w22.cell? ⟨gb101, 2, none⟩ = some (.int .i64 a0_2) := (blk_cell BK101.out 2).trans rfl; have hcz24_3 : w22.cell? ⟨gb101, 3, none⟩ = some (.int .i64 a0_3) := (blk_cell BK101.out 3).trans rfl; have hcz24_4 : w22.cell? ⟨gb101, 4, none⟩ = some (.int .i64 a0_4) := (blk_cell BK101.out 4).trans rfl; have hcz24_5 : w22.cell? ⟨gb101, 5, none⟩ = some (.slice A0_5 l0_5.length c0_5) := (blk_cell BK101.out 5).trans rfl; have hfz24_0 := blk_frozen BK101.out 0; have hfz24_1 := blk_frozen BK101.out 1; have hfz24_2 := blk_frozen BK101.out 2; have hfz24_3 := blk_frozen BK101.out 3; have hfz24_4 := blk_frozen BK101.out 4; have hfz24_5 := blk_frozen BK101.out 5) | ((with_reducible refine gate_callee (f := 14) rfl ?_); refine goesL_ (some 13) rfl rfl Try.func14 (by kernel_rfl) rfl #[.agg #[.slice A0_0 l0_0.length c0_0, .slice A0_1 l0_1.length c0_1, .int .i64 a0_2, .int .i64 a0_3, .int .i64 a0_4, .slice A0_5 l0_5.length c0_5], .int .i64 1048576] rfl qz3_ ?_; (with_reducible refine (laws_szOpening.calls k _ _ l0_0 _ _ l0_1 a0_2 a0_3 a0_4 _ _ l0_5 1048576 t103 _ ?side1 ?side2 ?side3 ?side4 ?side5 ?side6 A4.out).mono ?_); (case side1 => exact qc_ (Kd.C_below HR0_0.out HB.out)); (case side2 => exact HC0_0.out); (case side3 => exact qc_ (Kd.C_below HR0_1.out HB.out)); (case side4 => exact HC0_1.out); (case side5 => exact qc_ (Kd.C_below HR0_5.out HB.out)); (case side6 => exact HC0_5.out); rintro e w25 ⟨rfl, hb⟩; refine ⟨_, rfl, ?_⟩; have n0_ := am_ (blk_below (g := gb101) (o := .cells #[.slice A0_0 l0_0.length c0_0, .slice A0_1 l0_1.length c0_1, .int .i64 a0_2, .int .i64 a0_3, .int .i64 a0_4, .slice A0_5 l0_5.length c0_5] 39 (0, 0)) qz7_ hb); have n1_ := am_ (blk_below (g := gb102) (o := .cells #[.int .i64 a2_0, .int .i64 a2_1, .int .i64 a2_2] 41 (0, 0)) qz8_ hb); have n2_ := am_ (below_step qz9_ hb); clear BK101; clear BK102; clear HB; have BK101 := n0_; have BK102 := n1_; have HB := n2_; clear n0_ n1_ n2_; (try clear hb); (try clear hb2); (try clear hk); (try clear hi)))
    have n0_ := am_ (blk_drew BK101.out)
    have n1_ := am_ (blk_drew BK102.out)
    have n2_ := am_ (below_drew1 HB.out)
    clear BK101
    clear BK102
    clear HB
    have BK101 := n0_
    have BK102 := n1_
    have HB := n2_
    clear n0_ n1_ n2_
    refine start_ (n := 7) (S := fun w' => w'.cell? ⟨gb101, 0, none⟩ = some (.slice A0_0 l0_0.length c0_0) ∧ w'.cell? ⟨gb101, 1, none⟩ = some (.slice A0_1 l0_1.length c0_1) ∧ w'.cell? ⟨gb101, 2, none⟩ = some (.int .i64 a0_2) ∧ w'.cell? ⟨gb101, 3, none⟩ = some (.int .i64 a0_3) ∧ w'.cell? ⟨gb101, 4, none⟩ = some (.int .i64 a0_4) ∧ w'.cell? ⟨gb101, 5, none⟩ = some (.slice A0_5 l0_5.length c0_5) ∧ w'.cell? ⟨gb102, 0, none⟩ = some (.int .i64 a2_0) ∧ w'.cell? ⟨gb102, 1, none⟩ = some (.int .i64 a2_1) ∧ w'.cell? ⟨gb102, 2, none⟩ = some (.int .i64 a2_2)) (ds := []) #[false, false, false, false, false, false, false] (by kernel_rfl) rfl rfl ⟨(blk_cell BK101.out 0).trans rfl, (blk_cell BK101.out 1).trans rfl, (blk_cell BK101.out 2).trans rfl, (blk_cell BK101.out 3).trans rfl, (blk_cell BK101.out 4).trans rfl, (blk_cell BK101.out 5).trans rfl, (blk_cell BK102.out 0).trans rfl, (blk_cell BK102.out 1).trans rfl, (blk_cell BK102.out 2).trans rfl⟩ (fun hHeld => ?_)
    generalize w25.drew = w26 at BK101 BK102 HB hHeld ⊢
    refine pure_ (i := 2) (N := some 18) (v := ?_) (a' := ?_) #[false, false, true, false, false, false, false] rfl rfl (by kernel_rfl) (fun _ _ _ h => h) (Or.inl ⟨(by rfl), ?_⟩) ?_ ?_
    rotate_left
    ·
     intro w'
     go_simp
     with_reducible rfl
    rotate_left
    ·
     simp only [Act.put, List.setIfInBounds_toArray, List.set_cons_zero, List.set_cons_succ, i64_w, i32_w]
     rfl
    refine take_ (i := 0) (N := some 16) (v := ?_) (a' := ?_) #[true, false, true, false, false, false, false] rfl rfl (by kernel_rfl) (fun _ _ _ h => h) (Or.inl ⟨(by rfl), ?_⟩) hHeld ?_ ?_
    rotate_left
    ·
     rintro w' ⟨s0, s1, s2, s3, s4, s5, s6, s7, s8⟩
     go_simp
     with_reducible rfl
    rotate_left
    ·
     simp only [Act.put, List.setIfInBounds_toArray, List.set_cons_zero, List.set_cons_succ, i64_w, i32_w]
     rfl
    refine take_ (i := 3) (N := some 19) (v := ?_) (a' := ?_) #[true, false, true, true, false, false, false] rfl rfl (by kernel_rfl) (fun _ _ _ h => h) (Or.inl ⟨(by rfl), ?_⟩) hHeld ?_ ?_
    rotate_left
    ·
     rintro w' ⟨s0, s1, s2, s3, s4, s5, s6, s7, s8⟩
     go_simp
     with_reducible rfl
    rotate_left
    ·
     simp only [Act.put, List.setIfInBounds_toArray, List.set_cons_zero, List.set_cons_succ, i64_w, i32_w]
     rfl
    refine one_ (i := 1) (N := some 17) #[true, true, true, true, false, false, false] rfl rfl (by kernel_rfl) (by decide) (fun K hK => ?_)
    refine goes_ Try.func16 (by kernel_rfl) rfl #[.agg #[.slice A0_0 l0_0.length c0_0, .slice A0_1 l0_1.length c0_1, .int .i64 a0_2, .int .i64 a0_3, .int .i64 a0_4, .slice A0_5 l0_5.length c0_5]] (by rfl) rfl rfl qz3_ ?_
    with_reducible refine (laws_toOpening.calls k _ _ l0_0 _ _ l0_1 a0_2 a0_3 a0_4 _ _ l0_5 t104 t107 t110 t111 t112 t113 _ ?side1 ?side2 ?side3 ?side4 ?side5 ?side6 A11.out).mono ?_
    (case side1 => exact qc_ (Kd.C_below HR0_0.out HB.out))
    (case side2 => exact HC0_0.out)
    (case side3 => exact qc_ (Kd.C_below HR0_1.out HB.out))
    (case side4 => exact HC0_1.out)
    (case side5 => exact qc_ (Kd.C_below HR0_5.out HB.out))
    (case side6 => exact HC0_5.out)
    rintro e w27 ⟨v105, v108, v114, rfl, ho0, ho1, ho2, hb⟩
    refine ⟨_, rfl, ?_⟩
    have n0_ := am_ (Kd.S_lower ho0 (below_size qz9_))
    have n1_ := am_ (Kd.R_lower ho1 (below_size qz9_))
    have n2_ := am_ (Kd.R_lower ho2 (below_size qz9_))
    have n3_ := am_ (blk_below (g := gb101) (o := .cells #[.slice A0_0 l0_0.length c0_0, .slice A0_1 l0_1.length c0_1, .int .i64 a0_2, .int .i64 a0_3, .int .i64 a0_4, .slice A0_5 l0_5.length c0_5] 39 (0, 0)) qz7_ hb)
    have n4_ := am_ (blk_below (g := gb102) (o := .cells #[.int .i64 a2_0, .int .i64 a2_1, .int .i64 a2_2] 41 (0, 0)) qz8_ hb)
    have n5_ := am_ (below_step qz9_ hb)
    clear BK101
    clear BK102
    clear HB
    have HO106 := n0_
    have HO109 := n1_
    have HO115 := n2_
    have BK101 := n3_
    have BK102 := n4_
    have HB := n5_
    clear n0_ n1_ n2_ n3_ n4_ n5_
    (try clear hb)
    (try clear hb2)
    (try clear hk)
    (try clear hi)
    (try clear ho0)
    (try clear ho1)
    (try clear ho2)
    refine hK.out _ _ ⟨(blk_cell BK101.out 0).trans rfl, (blk_cell BK101.out 1).trans rfl, (blk_cell BK101.out 2).trans rfl, (blk_cell BK101.out 3).trans rfl, (blk_cell BK101.out 4).trans rfl, (blk_cell BK101.out 5).trans rfl, (blk_cell BK102.out 0).trans rfl, (blk_cell BK102.out 1).trans rfl, (blk_cell BK102.out 2).trans rfl⟩ (fun hHeld => ?_)
    clear hK K
    refine norm_ (a' := ?_) ?_ ?_
    rotate_left
    ·
     show Act.put _ (some 17) _ = _
     simp only [Act.put, List.setIfInBounds_toArray, List.set_cons_zero, List.set_cons_succ, i64_w, i32_w]
     rfl
    refine one_ (i := 4) (N := some 20) #[true, true, true, true, true, false, false] rfl rfl (by kernel_rfl) (by decide) (fun K hK => ?_)
    refine goes_ Try.func17 (by kernel_rfl) rfl #[.agg #[.int .i64 a2_0, .int .i64 a2_1, .int .i64 a2_2]] (by rfl) rfl rfl qz3_ ?_
    with_reducible refine (laws_toSetting.calls a2_0 a2_1 a2_2 t116 t117 t118 _ A12.out).mono ?_
    rintro e w28 ⟨rfl, hb⟩
    refine ⟨_, rfl, ?_⟩
    have n0_ := am_ (Kd.S_below qz27_ hb)
    have n1_ := am_ (Kd.R_below qz28_ hb)
    have n2_ := am_ (Kd.R_below qz29_ hb)
    have n3_ := am_ (blk_below (g := gb101) (o := .cells #[.slice A0_0 l0_0.length c0_0, .slice A0_1 l0_1.length c0_1, .int .i64 a0_2, .int .i64 a0_3, .int .i64 a0_4, .slice A0_5 l0_5.length c0_5] 39 (0, 0)) qz7_ hb)
    have n4_ := am_ (blk_below (g := gb102) (o := .cells #[.int .i64 a2_0, .int .i64 a2_1, .int .i64 a2_2] 41 (0, 0)) qz8_ hb)
    have n5_ := am_ (below_step qz9_ hb)
    clear HO106
    clear HO109
    clear HO115
    clear BK101
    clear BK102
    clear HB
    have HO106 := n0_
    have HO109 := n1_
    have HO115 := n2_
    have BK101 := n3_
    have BK102 := n4_
    have HB := n5_
    clear n0_ n1_ n2_ n3_ n4_ n5_
    (try clear hb)
    (try clear hb2)
    (try clear hk)
    (try clear hi)
    obtain ⟨Ao29, co29, eo29⟩ := Kd.S_slice HO106.out
    (first | subst eo29 | (injection eo29 with f1_ f2_ f3_; have f4_ := f1_.symm; have f5_ := f3_.symm; clear f1_ f2_ f3_; subst f4_; subst f5_))
    obtain ⟨Ao30, co30, eo30⟩ := Kd.R_slice HO109.out
    (first | subst eo30 | (injection eo30 with f1_ f2_ f3_; have f4_ := f1_.symm; have f5_ := f3_.symm; clear f1_ f2_ f3_; subst f4_; subst f5_))
    obtain ⟨Ao31, co31, eo31⟩ := Kd.R_slice HO115.out
    (first | subst eo31 | (injection eo31 with f1_ f2_ f3_; have f4_ := f1_.symm; have f5_ := f3_.symm; clear f1_ f2_ f3_; subst f4_; subst f5_))
    refine hK.out _ _ ⟨(blk_cell BK101.out 0).trans rfl, (blk_cell BK101.out 1).trans rfl, (blk_cell BK101.out 2).trans rfl, (blk_cell BK101.out 3).trans rfl, (blk_cell BK101.out 4).trans rfl, (blk_cell BK101.out 5).trans rfl, (blk_cell BK102.out 0).trans rfl, (blk_cell BK102.out 1).trans rfl, (blk_cell BK102.out 2).trans rfl⟩ (fun hHeld => ?_)
    clear hK K
    refine norm_ (a' := ?_) ?_ ?_
    rotate_left
    ·
     show Act.put _ (some 20) _ = _
     simp only [Act.put, List.setIfInBounds_toArray, List.set_cons_zero, List.set_cons_succ, i64_w, i32_w]
     rfl
    refine one_ (i := 5) (N := some 21) #[true, true, true, true, true, true, false] rfl rfl (by kernel_rfl) (by decide) (fun K hK => ?_)
    refine goes_ Try.func15 (by kernel_rfl) rfl #[.agg #[.slice Ao29 t104.length co29, .slice Ao30 t107.length co30, .int .i64 t110, .int .i64 t111, .int .i64 t112, .slice Ao31 t113.length co31], .int .i64 a1, .agg #[.int .i64 t116, .int .i64 t117, .int .i64 t118]] (by rfl) rfl rfl qz3_ ?_
    with_reducible refine (spec_OpeningOK.calls k _ _ t104 _ _ t107 t110 t111 t112 _ _ t113 a1 t116 t117 t118 t119 _ ?side1 ?side2 ?side3 ?side4 ?side5 ?side6 A13.out).mono ?_
    (case side1 => exact qc_ (Kd.S_reads' HO106.out).2.2)
    (case side2 => exact (Kd.S_reads' HO106.out).2.1)
    (case side3 => exact qc_ (Kd.R_reads' HO109.out).2.2)
    (case side4 => exact (Kd.R_reads' HO109.out).2.1)
    (case side5 => exact qc_ (Kd.R_reads' HO115.out).2.2)
    (case side6 => exact (Kd.R_reads' HO115.out).2.1)
    rintro e w32 ⟨rfl, hb⟩
    refine ⟨_, rfl, ?_⟩
    have n0_ := am_ (Kd.S_below qz27_ hb)
    have n1_ := am_ (Kd.R_below qz28_ hb)
    have n2_ := am_ (Kd.R_below qz29_ hb)
    have n3_ := am_ (blk_below (g := gb101) (o := .cells #[.slice A0_0 l0_0.length c0_0, .slice A0_1 l0_1.length c0_1, .int .i64 a0_2, .int .i64 a0_3, .int .i64 a0_4, .slice A0_5 l0_5.length c0_5] 39 (0, 0)) qz7_ hb)
    have n4_ := am_ (blk_below (g := gb102) (o := .cells #[.int .i64 a2_0, .int .i64 a2_1, .int .i64 a2_2] 41 (0, 0)) qz8_ hb)
    have n5_ := am_ (below_step qz9_ hb)
    clear HO106
    clear HO109
    clear HO115
    clear BK101
    clear BK102
    clear HB
    have HO106 := n0_
    have HO109 := n1_
    have HO115 := n2_
    have BK101 := n3_
    have BK102 := n4_
    have HB := n5_
    clear n0_ n1_ n2_ n3_ n4_ n5_
    (try clear hb)
    (try clear hb2)
    (try clear hk)
    (try clear hi)
    refine hK.out _ _ ⟨(blk_cell BK101.out 0).trans rfl, (blk_cell BK101.out 1).trans rfl, (blk_cell BK101.out 2).trans rfl, (blk_cell BK101.out 3).trans rfl, (blk_cell BK101.out 4).trans rfl, (blk_cell BK101.out 5).trans rfl, (blk_cell BK102.out 0).trans rfl, (blk_cell BK102.out 1).trans rfl, (blk_cell BK102.out 2).trans rfl⟩ (fun hHeld => ?_)
    clear hK K
    refine norm_ (a' := ?_) ?_ ?_
    rotate_left
    ·
     show Act.put _ (some 21) _ = _
     simp only [Act.put, List.setIfInBounds_toArray, List.set_cons_zero, List.set_cons_succ, i64_w, i32_w]
     rfl
    refine pure_ (i := 6) (N := some 8) (v := ?_) (a' := ?_) #[true, true, true, true, true, true, true] rfl rfl (by kernel_rfl) (fun _ _ _ h => h) (Or.inl ⟨(by rfl), ?_⟩) ?_ ?_
    rotate_left
    ·
     intro w'
     go_simp
     with_reducible rfl
    rotate_left
    ·
     simp only [Act.put, List.setIfInBounds_toArray, List.set_cons_zero, List.set_cons_succ, i64_w, i32_w]
     rfl
    refine done_ (by kernel_rfl) ?_
    have hcz33_0 : w32.cell? ⟨gb101, 0, none⟩ = some (.slice A0_0 l0_0.length c0_0) := (blk_cell BK101.out 0).trans rfl
    have hcz33_1 : w32.cell? ⟨gb101, 1, none⟩ = some (.slice A0_1 l0_1.length c0_1) := (blk_cell BK101.out 1).trans rfl
    have hcz33_2 : w32.cell? ⟨gb101, 2, none⟩ = some (.int .i64 a0_2) := (blk_cell BK101.out 2).trans rfl
    have hcz33_3 : w32.cell? ⟨gb101, 3, none⟩ = some (.int .i64 a0_3) := (blk_cell BK101.out 3).trans rfl
    have hcz33_4 : w32.cell? ⟨gb101, 4, none⟩ = some (.int .i64 a0_4) := (blk_cell BK101.out 4).trans rfl
    have hcz33_5 : w32.cell? ⟨gb101, 5, none⟩ = some (.slice A0_5 l0_5.length c0_5) := (blk_cell BK101.out 5).trans rfl
    have hfz33_0 := blk_frozen BK101.out 0
    have hfz33_1 := blk_frozen BK101.out 1
    have hfz33_2 := blk_frozen BK101.out 2
    have hfz33_3 := blk_frozen BK101.out 3
    have hfz33_4 := blk_frozen BK101.out 4
    have hfz33_5 := blk_frozen BK101.out 5
    try go_wp2_with (first | ((with_reducible refine gate_callee (f := 16) rfl ?_); refine goesL_ (some 23) rfl rfl Try.func16 (by kernel_rfl) rfl #[.agg #[.slice A0_0 l0_0.length c0_0, .slice A0_1 l0_1.length c0_1, .int .i64 a0_2, .int .i64 a0_3, .int .i64 a0_4, .slice A0_5 l0_5.length c0_5]] rfl qz3_ ?_; (with_reducible refine (laws_toOpening.calls k _ _ l0_0 _ _ l0_1 a0_2 a0_3 a0_4 _ _ l0_5 t120 t123 t126 t127 t128 t129 _ ?side1 ?side2 ?side3 ?side4 ?side5 ?side6 A14.out).mono ?_); (case side1 => exact qc_ (Kd.C_below HR0_0.out HB.out)); (case side2 => exact HC0_0.out); (case side3 => exact qc_ (Kd.C_below HR0_1.out HB.out)); (case side4 => exact HC0_1.out); (case side5 => exact qc_ (Kd.C_below HR0_5.out HB.out)); (case side6 => exact HC0_5.out); rintro e w34 ⟨v121, v124, v130, rfl, ho0, ho1, ho2, hb⟩; refine ⟨_, rfl, ?_⟩; have n0_ := am_ (Kd.S_elder' qz27_ (Kd.S_base ho0) hb); have n1_ := am_ (Kd.R_elder' qz28_ (Kd.R_base ho1) hb); have n2_ := am_ (Kd.R_mono (Kd.R_told (Kd.R_told (Kd.R_old qz29_ hb) (Kd.R_base ho1)) (Kd.R_base ho2)) (fun _ h_ => h_.1)); have n3_ := am_ (Kd.S_lower (Kd.S_new' ho0 (Kd.S_lt qz27_)) (below_size qz9_)); have n4_ := am_ (Kd.R_lower (Kd.R_new' ho1 (Kd.R_lt qz28_)) (below_size qz9_)); have n5_ := am_ (Kd.R_lower (Kd.R_new' (Kd.R_new' ho2 (Kd.R_lt qz28_)) (Kd.R_lt qz29_)) (below_size qz9_)); have n6_ := am_ (blk_below (g := gb101) (o := .cells #[.slice A0_0 l0_0.length c0_0, .slice A0_1 l0_1.length c0_1, .int .i64 a0_2, .int .i64 a0_3, .int .i64 a0_4, .slice A0_5 l0_5.length c0_5] 39 (0, 0)) qz7_ hb); have n7_ := am_ (blk_below (g := gb102) (o := .cells #[.int .i64 a2_0, .int .i64 a2_1, .int .i64 a2_2] 41 (0, 0)) qz8_ hb); have n8_ := am_ (below_step qz9_ hb); clear HO106; clear HO109; clear HO115; clear BK101; clear BK102; clear HB; have HO106 := n0_; have HO109 := n1_; have HO115 := n2_; have HO122 := n3_; have HO125 := n4_; have HO131 := n5_; have BK101 := n6_; have BK102 := n7_; have HB := n8_; clear n0_ n1_ n2_ n3_ n4_ n5_ n6_ n7_ n8_; (try clear hb); (try clear hb2); (try clear hk); (try clear hi); (try clear ho0); (try clear ho1); (try clear ho2)) | ((with_reducible refine gate_dst (N := 9) rfl ?_); refine box_event ?hg (N := 9) ?hd (cs := #[.slice none 0 0, .slice none 0 0, .int .i64 0, .int .i64 0, .int .i64 0, .slice none 0 0]) (t := 47) ?hr ?_; (case hd => rfl); (case hg => rfl); (case hr => first | (go_simp; done) | (go_simp; rfl)); intro gb132 hg w35 hbox hb; have n0_ := am_ (Kd.S_below qz27_ hb); have n1_ := am_ (Kd.R_below qz28_ hb); have n2_ := am_ (Kd.R_below qz29_ hb); have n3_ := am_ (Kd.S_below qz30_ hb); have n4_ := am_ (Kd.R_below qz31_ hb); have n5_ := am_ (Kd.R_below qz32_ hb); have n6_ := am_ (blk_below (g := gb101) (o := .cells #[.slice A0_0 l0_0.length c0_0, .slice A0_1 l0_1.length c0_1, .int .i64 a0_2, .int .i64 a0_3, .int .i64 a0_4, .slice A0_5 l0_5.length c0_5] 39 (0, 0)) qz7_ hb); have n7_ := am_ (blk_below (g := gb102) (o := .cells #[.int .i64 a2_0, .int .i64 a2_1, .int .i64 a2_2] 41 (0, 0)) qz8_ hb); have n8_ := am_ (below_step qz9_ hb); have n9_ := am_ (hbox); have n10_ := am_ ((by rw [hg]; exact (below_size qz9_) : w.heap.size ≤ gb132)); have n11_ := am_ ((by rw [hg]; exact (below_size qz9_) : w.heap.size ≤ gb132)); have n12_ := am_ ((by rw [hg]; exact Nat.ne_of_lt (blk_lt (g := gb101) (o := .cells #[.slice A0_0 l0_0.length c0_0, .slice A0_1 l0_1.length c0_1, .int .i64 a0_2, .int .i64 a0_3, .int .i64 a0_4, .slice A0_5 l0_5.length c0_5] 39 (0, 0)) qz7_) : gb101 ≠ gb132)); have n13_ := am_ ((by rw [hg]; exact Nat.ne_of_gt (blk_lt (g := gb101) (o := .cells #[.slice A0_0 l0_0.length c0_0, .slice A0_1 l0_1.length c0_1, .int .i64 a0_2, .int .i64 a0_3, .int .i64 a0_4, .slice A0_5 l0_5.length c0_5] 39 (0, 0)) qz7_) : gb132 ≠ gb101)); have n14_ := am_ ((by rw [hg]; exact Nat.ne_of_lt (blk_lt (g := gb102) (o := .cells #[.int .i64 a2_0, .int .i64 a2_1, .int .i64 a2_2] 41 (0, 0)) qz8_) : gb102 ≠ gb132)); have n15_ := am_ ((by rw [hg]; exact Nat.ne_of_gt (blk_lt (g := gb102) (o := .cells #[.int .i64 a2_0, .int .i64 a2_1, .int .i64 a2_2] 41 (0, 0)) qz8_) : gb132 ≠ gb102)); clear HO106; clear HO109; clear HO115; clear HO122; clear HO125; clear HO131; clear BK101; clear BK102; clear HB; have HO106 := n0_; have HO109 := n1_; have HO115 := n2_; have HO122 := n3_; have HO125 := n4_; have HO131 := n5_; have BK101 := n6_; have BK102 := n7_; have HB := n8_; have BK132 := n9_; have GW132 := n10_; have GE132 := n11_; have NB101_132 := n12_; have NB132_101 := n13_; have NB102_132 := n14_; have NB132_102 := n15_; clear n0_ n1_ n2_ n3_ n4_ n5_ n6_ n7_ n8_ n9_ n10_ n11_ n12_ n13_ n14_ n15_; clear hb hbox hg; obtain ⟨Ao36, co36, eo36⟩ := Kd.S_slice HO122.out; subst eo36; have hnb37 := NB132_101.out; have hnc37 := NB101_132.out; have hnb38 := NB132_102.out; have hnc38 := NB102_132.out; have hcz39_0 : w35.cell? ⟨gb132, 0, none⟩ = some (.slice none 0 0) := (blk_cell BK132.out 0).trans rfl; have hcz39_1 : w35.cell? ⟨gb132, 1, none⟩ = some (.slice none 0 0) := (blk_cell BK132.out 1).trans rfl; have hcz39_2 : w35.cell? ⟨gb132, 2, none⟩ = some (.int .i64 0) := (blk_cell BK132.out 2).trans rfl; have hcz39_3 : w35.cell? ⟨gb132, 3, none⟩ = some (.int .i64 0) := (blk_cell BK132.out 3).trans rfl; have hcz39_4 : w35.cell? ⟨gb132, 4, none⟩ = some (.int .i64 0) := (blk_cell BK132.out 4).trans rfl; have hcz39_5 : w35.cell? ⟨gb132, 5, none⟩ = some (.slice none 0 0) := (blk_cell BK132.out 5).trans rfl; have hfz39_0 := blk_frozen BK132.out 0; have hfz39_1 := blk_frozen BK132.out 1; have hfz39_2 := blk_frozen BK132.out 2; have hfz39_3 := blk_frozen BK132.out 3; have hfz39_4 := blk_frozen BK132.out 4; have hfz39_5 := blk_frozen BK132.out 5; obtain ⟨Ao40, co40, eo40⟩ := Kd.R_slice HO125.out; subst eo40; obtain ⟨Ao41, co41, eo41⟩ := Kd.R_slice HO131.out; subst eo41))
    have n0_ : Aside0 (Kd.S (Kd.slice 44 k44) 24 ((((((w35.setCell ⟨gb132, 0, none⟩ (.slice Ao36 t120.length co36)).setCell ⟨gb132, 1, none⟩ (.slice Ao40 t123.length co40)).setCell ⟨gb132, 2, none⟩ (.int .i64 t126)).setCell ⟨gb132, 3, none⟩ (.int .i64 t127)).setCell ⟨gb132, 4, none⟩ (.int .i64 t128)).setCell ⟨gb132, 5, none⟩ (.slice Ao41 t129.length co41)) w.heap.size (fun k_ => some k_ ≠ (.slice Ao36 t120.length co36 : Value).ownBlock) (.slice Ao29 t104.length co29) t104) := ⟨by (with_reducible repeat (first | apply Kd.S_alloc | apply Kd.S_drewN | apply Kd.S_drew)); exact Kd.S_mono (Kd.S_far (p := ⟨gb132, 5, none⟩) (Kd.S_far (p := ⟨gb132, 4, none⟩) (Kd.S_far (p := ⟨gb132, 3, none⟩) (Kd.S_far (p := ⟨gb132, 2, none⟩) (Kd.S_far (p := ⟨gb132, 1, none⟩) (Kd.S_far (p := ⟨gb132, 0, none⟩) (Kd.S_types HO106.out BK132.out (by decide)) (fun _ hk => hk.2) (.slice Ao36 t120.length co36)) (fun _ hk => hk.2) (.slice Ao40 t123.length co40)) (fun _ hk => hk.2) (.int .i64 t126)) (fun _ hk => hk.2) (.int .i64 t127)) (fun _ hk => hk.2) (.int .i64 t128)) (fun _ hk => hk.2) (.slice Ao41 t129.length co41)) (fun _ hk => hk.1.2)⟩
    have n1_ : Aside0 (Kd.R Kd.string 9 ((((((w35.setCell ⟨gb132, 0, none⟩ (.slice Ao36 t120.length co36)).setCell ⟨gb132, 1, none⟩ (.slice Ao40 t123.length co40)).setCell ⟨gb132, 2, none⟩ (.int .i64 t126)).setCell ⟨gb132, 3, none⟩ (.int .i64 t127)).setCell ⟨gb132, 4, none⟩ (.int .i64 t128)).setCell ⟨gb132, 5, none⟩ (.slice Ao41 t129.length co41)) w.heap.size (fun k_ => some k_ ≠ (.slice Ao40 t123.length co40 : Value).ownBlock) (.slice Ao30 t107.length co30) t107) := ⟨by (with_reducible repeat (first | apply Kd.R_alloc | apply Kd.R_drewN | apply Kd.R_drew)); exact Kd.R_mono (Kd.R_far (p := ⟨gb132, 5, none⟩) (Kd.R_far (p := ⟨gb132, 4, none⟩) (Kd.R_far (p := ⟨gb132, 3, none⟩) (Kd.R_far (p := ⟨gb132, 2, none⟩) (Kd.R_far (p := ⟨gb132, 1, none⟩) (Kd.R_far (p := ⟨gb132, 0, none⟩) (Kd.R_types HO109.out BK132.out (by decide)) (fun _ hk => hk.2) (.slice Ao36 t120.length co36)) (fun _ hk => hk.2) (.slice Ao40 t123.length co40)) (fun _ hk => hk.2) (.int .i64 t126)) (fun _ hk => hk.2) (.int .i64 t127)) (fun _ hk => hk.2) (.int .i64 t128)) (fun _ hk => hk.2) (.slice Ao41 t129.length co41)) (fun _ hk => hk.1.2)⟩
    have n2_ : Aside0 (Kd.R k67 67 ((((((w35.setCell ⟨gb132, 0, none⟩ (.slice Ao36 t120.length co36)).setCell ⟨gb132, 1, none⟩ (.slice Ao40 t123.length co40)).setCell ⟨gb132, 2, none⟩ (.int .i64 t126)).setCell ⟨gb132, 3, none⟩ (.int .i64 t127)).setCell ⟨gb132, 4, none⟩ (.int .i64 t128)).setCell ⟨gb132, 5, none⟩ (.slice Ao41 t129.length co41)) w.heap.size (fun k_ => some k_ ≠ (.slice Ao30 t107.length co30 : Value).ownBlock ∧ some k_ ≠ (.slice Ao40 t123.length co40 : Value).ownBlock ∧ some k_ ≠ (.slice Ao41 t129.length co41 : Value).ownBlock) (.slice Ao31 t113.length co31) t113) := ⟨by (with_reducible repeat (first | apply Kd.R_alloc | apply Kd.R_drewN | apply Kd.R_drew)); exact Kd.R_mono (Kd.R_far (p := ⟨gb132, 5, none⟩) (Kd.R_far (p := ⟨gb132, 4, none⟩) (Kd.R_far (p := ⟨gb132, 3, none⟩) (Kd.R_far (p := ⟨gb132, 2, none⟩) (Kd.R_far (p := ⟨gb132, 1, none⟩) (Kd.R_far (p := ⟨gb132, 0, none⟩) (Kd.R_types HO115.out BK132.out (by decide)) (fun _ hk => hk.2) (.slice Ao36 t120.length co36)) (fun _ hk => hk.2) (.slice Ao40 t123.length co40)) (fun _ hk => hk.2) (.int .i64 t126)) (fun _ hk => hk.2) (.int .i64 t127)) (fun _ hk => hk.2) (.int .i64 t128)) (fun _ hk => hk.2) (.slice Ao41 t129.length co41)) (fun _ hk => ⟨hk.1.1.1, ⟨hk.1.1.2, hk.1.2⟩⟩)⟩
    have n3_ : Aside0 (Kd.S (Kd.slice 44 k44) 24 ((((((w35.setCell ⟨gb132, 0, none⟩ (.slice Ao36 t120.length co36)).setCell ⟨gb132, 1, none⟩ (.slice Ao40 t123.length co40)).setCell ⟨gb132, 2, none⟩ (.int .i64 t126)).setCell ⟨gb132, 3, none⟩ (.int .i64 t127)).setCell ⟨gb132, 4, none⟩ (.int .i64 t128)).setCell ⟨gb132, 5, none⟩ (.slice Ao41 t129.length co41)) w.heap.size (fun k_ => some k_ ≠ (.slice Ao29 t104.length co29 : Value).ownBlock) (.slice Ao36 t120.length co36) t120) := ⟨by (with_reducible repeat (first | apply Kd.S_alloc | apply Kd.S_drewN | apply Kd.S_drew)); exact Kd.S_mono (Kd.S_far (p := ⟨gb132, 5, none⟩) (Kd.S_far (p := ⟨gb132, 4, none⟩) (Kd.S_far (p := ⟨gb132, 3, none⟩) (Kd.S_far (p := ⟨gb132, 2, none⟩) (Kd.S_far (p := ⟨gb132, 1, none⟩) (Kd.S_far (p := ⟨gb132, 0, none⟩) (Kd.S_types HO122.out BK132.out (by decide)) (fun _ hk => hk.2) (.slice Ao36 t120.length co36)) (fun _ hk => hk.2) (.slice Ao40 t123.length co40)) (fun _ hk => hk.2) (.int .i64 t126)) (fun _ hk => hk.2) (.int .i64 t127)) (fun _ hk => hk.2) (.int .i64 t128)) (fun _ hk => hk.2) (.slice Ao41 t129.length co41)) (fun _ hk => hk.1.2)⟩
    have n4_ : Aside0 (Kd.R Kd.string 9 ((((((w35.setCell ⟨gb132, 0, none⟩ (.slice Ao36 t120.length co36)).setCell ⟨gb132, 1, none⟩ (.slice Ao40 t123.length co40)).setCell ⟨gb132, 2, none⟩ (.int .i64 t126)).setCell ⟨gb132, 3, none⟩ (.int .i64 t127)).setCell ⟨gb132, 4, none⟩ (.int .i64 t128)).setCell ⟨gb132, 5, none⟩ (.slice Ao41 t129.length co41)) w.heap.size (fun k_ => some k_ ≠ (.slice Ao30 t107.length co30 : Value).ownBlock) (.slice Ao40 t123.length co40) t123) := ⟨by (with_reducible repeat (first | apply Kd.R_alloc | apply Kd.R_drewN | apply Kd.R_drew)); exact Kd.R_mono (Kd.R_far (p := ⟨gb132, 5, none⟩) (Kd.R_far (p := ⟨gb132, 4, none⟩) (Kd.R_far (p := ⟨gb132, 3, none⟩) (Kd.R_far (p := ⟨gb132, 2, none⟩) (Kd.R_far (p := ⟨gb132, 1, none⟩) (Kd.R_far (p := ⟨gb132, 0, none⟩) (Kd.R_types HO125.out BK132.out (by decide)) (fun _ hk => hk.2) (.slice Ao36 t120.length co36)) (fun _ hk => hk.2) (.slice Ao40 t123.length co40)) (fun _ hk => hk.2) (.int .i64 t126)) (fun _ hk => hk.2) (.int .i64 t127)) (fun _ hk => hk.2) (.int .i64 t128)) (fun _ hk => hk.2) (.slice Ao41 t129.length co41)) (fun _ hk => hk.1.2)⟩
    have n5_ : Aside0 (Kd.R k67 67 ((((((w35.setCell ⟨gb132, 0, none⟩ (.slice Ao36 t120.length co36)).setCell ⟨gb132, 1, none⟩ (.slice Ao40 t123.length co40)).setCell ⟨gb132, 2, none⟩ (.int .i64 t126)).setCell ⟨gb132, 3, none⟩ (.int .i64 t127)).setCell ⟨gb132, 4, none⟩ (.int .i64 t128)).setCell ⟨gb132, 5, none⟩ (.slice Ao41 t129.length co41)) w.heap.size (fun k_ => some k_ ≠ (.slice Ao30 t107.length co30 : Value).ownBlock ∧ some k_ ≠ (.slice Ao31 t113.length co31 : Value).ownBlock ∧ some k_ ≠ (.slice Ao40 t123.length co40 : Value).ownBlock) (.slice Ao41 t129.length co41) t129) := ⟨by (with_reducible repeat (first | apply Kd.R_alloc | apply Kd.R_drewN | apply Kd.R_drew)); exact Kd.R_mono (Kd.R_far (p := ⟨gb132, 5, none⟩) (Kd.R_far (p := ⟨gb132, 4, none⟩) (Kd.R_far (p := ⟨gb132, 3, none⟩) (Kd.R_far (p := ⟨gb132, 2, none⟩) (Kd.R_far (p := ⟨gb132, 1, none⟩) (Kd.R_far (p := ⟨gb132, 0, none⟩) (Kd.R_types HO131.out BK132.out (by decide)) (fun _ hk => hk.2) (.slice Ao36 t120.length co36)) (fun _ hk => hk.2) (.slice Ao40 t123.length co40)) (fun _ hk => hk.2) (.int .i64 t126)) (fun _ hk => hk.2) (.int .i64 t127)) (fun _ hk => hk.2) (.int .i64 t128)) (fun _ hk => hk.2) (.slice Ao41 t129.length co41)) (fun _ hk => ⟨hk.1.1.2, ⟨hk.1.2, hk.1.1.1⟩⟩)⟩
    have n6_ : Aside0 (((((((w35.setCell ⟨gb132, 0, none⟩ (.slice Ao36 t120.length co36)).setCell ⟨gb132, 1, none⟩ (.slice Ao40 t123.length co40)).setCell ⟨gb132, 2, none⟩ (.int .i64 t126)).setCell ⟨gb132, 3, none⟩ (.int .i64 t127)).setCell ⟨gb132, 4, none⟩ (.int .i64 t128)).setCell ⟨gb132, 5, none⟩ (.slice Ao41 t129.length co41)).heap[gb101]? = some (.cells #[.slice A0_0 l0_0.length c0_0, .slice A0_1 l0_1.length c0_1, .int .i64 a0_2, .int .i64 a0_3, .int .i64 a0_4, .slice A0_5 l0_5.length c0_5] 39 (0, 0))) := ⟨(by (with_reducible repeat (first | refine blk_drewN ?_ _ | refine blk_drew ?_ | refine blk_alloc ?_ _)); refine blk_far ?_ NB101_132.out _; (with_reducible repeat (first | refine blk_drewN ?_ _ | refine blk_drew ?_ | refine blk_alloc ?_ _)); refine blk_far ?_ NB101_132.out _; (with_reducible repeat (first | refine blk_drewN ?_ _ | refine blk_drew ?_ | refine blk_alloc ?_ _)); refine blk_far ?_ NB101_132.out _; (with_reducible repeat (first | refine blk_drewN ?_ _ | refine blk_drew ?_ | refine blk_alloc ?_ _)); refine blk_far ?_ NB101_132.out _; (with_reducible repeat (first | refine blk_drewN ?_ _ | refine blk_drew ?_ | refine blk_alloc ?_ _)); refine blk_far ?_ NB101_132.out _; (with_reducible repeat (first | refine blk_drewN ?_ _ | refine blk_drew ?_ | refine blk_alloc ?_ _)); refine blk_far ?_ NB101_132.out _; (with_reducible repeat (first | refine blk_drewN ?_ _ | refine blk_drew ?_ | refine blk_alloc ?_ _)); exact BK101.out)⟩
    have n7_ : Aside0 (((((((w35.setCell ⟨gb132, 0, none⟩ (.slice Ao36 t120.length co36)).setCell ⟨gb132, 1, none⟩ (.slice Ao40 t123.length co40)).setCell ⟨gb132, 2, none⟩ (.int .i64 t126)).setCell ⟨gb132, 3, none⟩ (.int .i64 t127)).setCell ⟨gb132, 4, none⟩ (.int .i64 t128)).setCell ⟨gb132, 5, none⟩ (.slice Ao41 t129.length co41)).heap[gb102]? = some (.cells #[.int .i64 a2_0, .int .i64 a2_1, .int .i64 a2_2] 41 (0, 0))) := ⟨(by (with_reducible repeat (first | refine blk_drewN ?_ _ | refine blk_drew ?_ | refine blk_alloc ?_ _)); refine blk_far ?_ NB102_132.out _; (with_reducible repeat (first | refine blk_drewN ?_ _ | refine blk_drew ?_ | refine blk_alloc ?_ _)); refine blk_far ?_ NB102_132.out _; (with_reducible repeat (first | refine blk_drewN ?_ _ | refine blk_drew ?_ | refine blk_alloc ?_ _)); refine blk_far ?_ NB102_132.out _; (with_reducible repeat (first | refine blk_drewN ?_ _ | refine blk_drew ?_ | refine blk_alloc ?_ _)); refine blk_far ?_ NB102_132.out _; (with_reducible repeat (first | refine blk_drewN ?_ _ | refine blk_drew ?_ | refine blk_alloc ?_ _)); refine blk_far ?_ NB102_132.out _; (with_reducible repeat (first | refine blk_drewN ?_ _ | refine blk_drew ?_ | refine blk_alloc ?_ _)); refine blk_far ?_ NB102_132.out _; (with_reducible repeat (first | refine blk_drewN ?_ _ | refine blk_drew ?_ | refine blk_alloc ?_ _)); exact BK102.out)⟩
    have n8_ : Aside0 (((((((w35.setCell ⟨gb132, 0, none⟩ (.slice Ao36 t120.length co36)).setCell ⟨gb132, 1, none⟩ (.slice Ao40 t123.length co40)).setCell ⟨gb132, 2, none⟩ (.int .i64 t126)).setCell ⟨gb132, 3, none⟩ (.int .i64 t127)).setCell ⟨gb132, 4, none⟩ (.int .i64 t128)).setCell ⟨gb132, 5, none⟩ (.slice Ao41 t129.length co41)).heap[gb132]? = some (.cells #[.slice Ao36 t120.length co36, .slice Ao40 t123.length co40, .int .i64 t126, .int .i64 t127, .int .i64 t128, .slice Ao41 t129.length co41] 47 (0, 0))) := ⟨(by (with_reducible repeat (first | refine blk_drewN ?_ _ | refine blk_drew ?_ | refine blk_alloc ?_ _)); refine blk_put (cs := #[.slice Ao36 t120.length co36, .slice Ao40 t123.length co40, .int .i64 t126, .int .i64 t127, .int .i64 t128, .slice none 0 0]) ?_ 5 _ rfl; (with_reducible repeat (first | refine blk_drewN ?_ _ | refine blk_drew ?_ | refine blk_alloc ?_ _)); refine blk_put (cs := #[.slice Ao36 t120.length co36, .slice Ao40 t123.length co40, .int .i64 t126, .int .i64 t127, .int .i64 0, .slice none 0 0]) ?_ 4 _ rfl; (with_reducible repeat (first | refine blk_drewN ?_ _ | refine blk_drew ?_ | refine blk_alloc ?_ _)); refine blk_put (cs := #[.slice Ao36 t120.length co36, .slice Ao40 t123.length co40, .int .i64 t126, .int .i64 0, .int .i64 0, .slice none 0 0]) ?_ 3 _ rfl; (with_reducible repeat (first | refine blk_drewN ?_ _ | refine blk_drew ?_ | refine blk_alloc ?_ _)); refine blk_put (cs := #[.slice Ao36 t120.length co36, .slice Ao40 t123.length co40, .int .i64 0, .int .i64 0, .int .i64 0, .slice none 0 0]) ?_ 2 _ rfl; (with_reducible repeat (first | refine blk_drewN ?_ _ | refine blk_drew ?_ | refine blk_alloc ?_ _)); refine blk_put (cs := #[.slice Ao36 t120.length co36, .slice none 0 0, .int .i64 0, .int .i64 0, .int .i64 0, .slice none 0 0]) ?_ 1 _ rfl; (with_reducible repeat (first | refine blk_drewN ?_ _ | refine blk_drew ?_ | refine blk_alloc ?_ _)); refine blk_put (cs := #[.slice none 0 0, .slice none 0 0, .int .i64 0, .int .i64 0, .int .i64 0, .slice none 0 0]) ?_ 0 _ rfl; (with_reducible repeat (first | refine blk_drewN ?_ _ | refine blk_drew ?_ | refine blk_alloc ?_ _)); exact BK132.out)⟩
    have n9_ : Aside0 (Below w.heap.size w ((((((w35.setCell ⟨gb132, 0, none⟩ (.slice Ao36 t120.length co36)).setCell ⟨gb132, 1, none⟩ (.slice Ao40 t123.length co40)).setCell ⟨gb132, 2, none⟩ (.int .i64 t126)).setCell ⟨gb132, 3, none⟩ (.int .i64 t127)).setCell ⟨gb132, 4, none⟩ (.int .i64 t128)).setCell ⟨gb132, 5, none⟩ (.slice Ao41 t129.length co41))) := ⟨qz33_⟩
    (try clear HO106)
    (try clear HO109)
    (try clear HO115)
    (try clear HO122)
    (try clear HO125)
    (try clear HO131)
    (try clear BK101)
    (try clear BK102)
    (try clear BK132)
    (try clear HB)
    generalize ((((((w35.setCell ⟨gb132, 0, none⟩ (.slice Ao36 t120.length co36)).setCell ⟨gb132, 1, none⟩ (.slice Ao40 t123.length co40)).setCell ⟨gb132, 2, none⟩ (.int .i64 t126)).setCell ⟨gb132, 3, none⟩ (.int .i64 t127)).setCell ⟨gb132, 4, none⟩ (.int .i64 t128)).setCell ⟨gb132, 5, none⟩ (.slice Ao41 t129.length co41)) = w42 at n0_ n1_ n2_ n3_ n4_ n5_ n6_ n7_ n8_ n9_ ⊢
    have HO106 := n0_
    have HO109 := n1_
    have HO115 := n2_
    have HO122 := n3_
    have HO125 := n4_
    have HO131 := n5_
    have BK101 := n6_
    have BK102 := n7_
    have BK132 := n8_
    have HB := n9_
    clear n0_ n1_ n2_ n3_ n4_ n5_ n6_ n7_ n8_ n9_
    have n0_ := am_ (Kd.S_drew HO106.out)
    have n1_ := am_ (Kd.R_drew HO109.out)
    have n2_ := am_ (Kd.R_drew HO115.out)
    have n3_ := am_ (Kd.S_drew HO122.out)
    have n4_ := am_ (Kd.R_drew HO125.out)
    have n5_ := am_ (Kd.R_drew HO131.out)
    have n6_ := am_ (blk_drew BK101.out)
    have n7_ := am_ (blk_drew BK102.out)
    have n8_ := am_ (blk_drew BK132.out)
    have n9_ := am_ (below_drew1 HB.out)
    clear HO106
    clear HO109
    clear HO115
    clear HO122
    clear HO125
    clear HO131
    clear BK101
    clear BK102
    clear BK132
    clear HB
    have HO106 := n0_
    have HO109 := n1_
    have HO115 := n2_
    have HO122 := n3_
    have HO125 := n4_
    have HO131 := n5_
    have BK101 := n6_
    have BK102 := n7_
    have BK132 := n8_
    have HB := n9_
    clear n0_ n1_ n2_ n3_ n4_ n5_ n6_ n7_ n8_ n9_
    refine start_ (n := 6) (S := fun w' => w'.cell? ⟨gb132, 0, none⟩ = some (.slice Ao36 t120.length co36) ∧ w'.cell? ⟨gb132, 1, none⟩ = some (.slice Ao40 t123.length co40) ∧ w'.cell? ⟨gb132, 2, none⟩ = some (.int .i64 t126) ∧ w'.cell? ⟨gb132, 3, none⟩ = some (.int .i64 t127) ∧ w'.cell? ⟨gb132, 4, none⟩ = some (.int .i64 t128) ∧ w'.cell? ⟨gb132, 5, none⟩ = some (.slice Ao41 t129.length co41) ∧ w'.cell? ⟨gb102, 0, none⟩ = some (.int .i64 a2_0) ∧ w'.cell? ⟨gb102, 1, none⟩ = some (.int .i64 a2_1) ∧ w'.cell? ⟨gb102, 2, none⟩ = some (.int .i64 a2_2)) (ds := []) #[false, false, false, false, false, false] (by kernel_rfl) rfl rfl ⟨(blk_cell BK132.out 0).trans rfl, (blk_cell BK132.out 1).trans rfl, (blk_cell BK132.out 2).trans rfl, (blk_cell BK132.out 3).trans rfl, (blk_cell BK132.out 4).trans rfl, (blk_cell BK132.out 5).trans rfl, (blk_cell BK102.out 0).trans rfl, (blk_cell BK102.out 1).trans rfl, (blk_cell BK102.out 2).trans rfl⟩ (fun hHeld => ?_)
    generalize w42.drew = w43 at HO106 HO109 HO115 HO122 HO125 HO131 BK101 BK102 BK132 HB hHeld ⊢
    refine pure_ (i := 1) (N := some 25) (v := ?_) (a' := ?_) #[false, true, false, false, false, false] rfl rfl (by kernel_rfl) (fun _ _ _ h => h) (Or.inl ⟨(by rfl), ?_⟩) ?_ ?_
    rotate_left
    ·
     intro w'
     go_simp
     with_reducible rfl
    rotate_left
    ·
     simp only [Act.put, List.setIfInBounds_toArray, List.set_cons_zero, List.set_cons_succ, i64_w, i32_w]
     rfl
    refine take_ (i := 0) (N := some 24) (v := ?_) (a' := ?_) #[true, true, false, false, false, false] rfl rfl (by kernel_rfl) (fun _ _ _ h => h) (Or.inl ⟨(by rfl), ?_⟩) hHeld ?_ ?_
    rotate_left
    ·
     rintro w' ⟨s0, s1, s2, s3, s4, s5, s6, s7, s8⟩
     go_simp
     with_reducible rfl
    rotate_left
    ·
     simp only [Act.put, List.setIfInBounds_toArray, List.set_cons_zero, List.set_cons_succ, i64_w, i32_w]
     rfl
    refine take_ (i := 2) (N := some 26) (v := ?_) (a' := ?_) #[true, true, true, false, false, false] rfl rfl (by kernel_rfl) (fun _ _ _ h => h) (Or.inl ⟨(by rfl), ?_⟩) hHeld ?_ ?_
    rotate_left
    ·
     rintro w' ⟨s0, s1, s2, s3, s4, s5, s6, s7, s8⟩
     go_simp
     with_reducible rfl
    rotate_left
    ·
     simp only [Act.put, List.setIfInBounds_toArray, List.set_cons_zero, List.set_cons_succ, i64_w, i32_w]
     rfl
    refine one_ (i := 3) (N := some 27) #[true, true, true, true, false, false] rfl rfl (by kernel_rfl) (by decide) (fun K hK => ?_)
    refine goes_ Try.func17 (by kernel_rfl) rfl #[.agg #[.int .i64 a2_0, .int .i64 a2_1, .int .i64 a2_2]] (by rfl) rfl rfl qz3_ ?_
    with_reducible refine (laws_toSetting.calls a2_0 a2_1 a2_2 t133 t134 t135 _ A15.out).mono ?_
    rintro e w44 ⟨rfl, hb⟩
    refine ⟨_, rfl, ?_⟩
    have n0_ := am_ (Kd.S_below qz27_ hb)
    have n1_ := am_ (Kd.R_below qz28_ hb)
    have n2_ := am_ (Kd.R_below qz29_ hb)
    have n3_ := am_ (Kd.S_below qz30_ hb)
    have n4_ := am_ (Kd.R_below qz31_ hb)
    have n5_ := am_ (Kd.R_below qz32_ hb)
    have n6_ := am_ (blk_below (g := gb101) (o := .cells #[.slice A0_0 l0_0.length c0_0, .slice A0_1 l0_1.length c0_1, .int .i64 a0_2, .int .i64 a0_3, .int .i64 a0_4, .slice A0_5 l0_5.length c0_5] 39 (0, 0)) qz7_ hb)
    have n7_ := am_ (blk_below (g := gb102) (o := .cells #[.int .i64 a2_0, .int .i64 a2_1, .int .i64 a2_2] 41 (0, 0)) qz8_ hb)
    have n8_ := am_ (blk_below (g := gb132) (o := .cells #[.slice Ao36 t120.length co36, .slice Ao40 t123.length co40, .int .i64 t126, .int .i64 t127, .int .i64 t128, .slice Ao41 t129.length co41] 47 (0, 0)) (by (with_reducible repeat (first | refine blk_drewN ?_ _ | refine blk_drew ?_ | refine blk_alloc ?_ _)); exact BK132.out) hb)
    have n9_ := am_ (below_step qz33_ hb)
    clear HO106
    clear HO109
    clear HO115
    clear HO122
    clear HO125
    clear HO131
    clear BK101
    clear BK102
    clear BK132
    clear HB
    have HO106 := n0_
    have HO109 := n1_
    have HO115 := n2_
    have HO122 := n3_
    have HO125 := n4_
    have HO131 := n5_
    have BK101 := n6_
    have BK102 := n7_
    have BK132 := n8_
    have HB := n9_
    clear n0_ n1_ n2_ n3_ n4_ n5_ n6_ n7_ n8_ n9_
    (try clear hb)
    (try clear hb2)
    (try clear hk)
    (try clear hi)
    refine hK.out _ _ ⟨(blk_cell BK132.out 0).trans rfl, (blk_cell BK132.out 1).trans rfl, (blk_cell BK132.out 2).trans rfl, (blk_cell BK132.out 3).trans rfl, (blk_cell BK132.out 4).trans rfl, (blk_cell BK132.out 5).trans rfl, (blk_cell BK102.out 0).trans rfl, (blk_cell BK102.out 1).trans rfl, (blk_cell BK102.out 2).trans rfl⟩ (fun hHeld => ?_)
    clear hK K
    refine norm_ (a' := ?_) ?_ ?_
    rotate_left
    ·
     show Act.put _ (some 27) _ = _
     simp only [Act.put, List.setIfInBounds_toArray, List.set_cons_zero, List.set_cons_succ, i64_w, i32_w]
     rfl
    refine one_ (i := 4) (N := some 28) #[true, true, true, true, true, false] rfl rfl (by kernel_rfl) (by decide) (fun K hK => ?_)
    refine goes_ Try.func18 (by kernel_rfl) rfl #[.agg #[.slice Ao36 t120.length co36, .slice Ao40 t123.length co40, .int .i64 t126, .int .i64 t127, .int .i64 t128, .slice Ao41 t129.length co41], .int .i64 a1, .agg #[.int .i64 t133, .int .i64 t134, .int .i64 t135]] (by rfl) rfl rfl qz3_ ?_
    with_reducible refine (impl_OpeningOK.calls k _ _ t120 _ _ t123 t126 t127 t128 _ _ t129 a1 t133 t134 t135 t136 _ ?side1 ?side2 ?side3 ?side4 ?side5 ?side6 A16.out).mono ?_
    (case side1 => exact qc_ (Kd.S_reads' HO122.out).2.2)
    (case side2 => exact (Kd.S_reads' HO122.out).2.1)
    (case side3 => exact qc_ (Kd.R_reads' HO125.out).2.2)
    (case side4 => exact (Kd.R_reads' HO125.out).2.1)
    (case side5 => exact qc_ (Kd.R_reads' HO131.out).2.2)
    (case side6 => exact (Kd.R_reads' HO131.out).2.1)
    rintro e w45 ⟨rfl, hb⟩
    refine ⟨_, rfl, ?_⟩
    have n0_ := am_ (Kd.S_below qz27_ hb)
    have n1_ := am_ (Kd.R_below qz28_ hb)
    have n2_ := am_ (Kd.R_below qz29_ hb)
    have n3_ := am_ (Kd.S_below qz30_ hb)
    have n4_ := am_ (Kd.R_below qz31_ hb)
    have n5_ := am_ (Kd.R_below qz32_ hb)
    have n6_ := am_ (blk_below (g := gb101) (o := .cells #[.slice A0_0 l0_0.length c0_0, .slice A0_1 l0_1.length c0_1, .int .i64 a0_2, .int .i64 a0_3, .int .i64 a0_4, .slice A0_5 l0_5.length c0_5] 39 (0, 0)) qz7_ hb)
    have n7_ := am_ (blk_below (g := gb102) (o := .cells #[.int .i64 a2_0, .int .i64 a2_1, .int .i64 a2_2] 41 (0, 0)) qz8_ hb)
    have n8_ := am_ (blk_below (g := gb132) (o := .cells #[.slice Ao36 t120.length co36, .slice Ao40 t123.length co40, .int .i64 t126, .int .i64 t127, .int .i64 t128, .slice Ao41 t129.length co41] 47 (0, 0)) (by (with_reducible repeat (first | refine blk_drewN ?_ _ | refine blk_drew ?_ | refine blk_alloc ?_ _)); exact BK132.out) hb)
    have n9_ := am_ (below_step qz33_ hb)
    clear HO106
    clear HO109
    clear HO115
    clear HO122
    clear HO125
    clear HO131
    clear BK101
    clear BK102
    clear BK132
    clear HB
    have HO106 := n0_
    have HO109 := n1_
    have HO115 := n2_
    have HO122 := n3_
    have HO125 := n4_
    have HO131 := n5_
    have BK101 := n6_
    have BK102 := n7_
    have BK132 := n8_
    have HB := n9_
    clear n0_ n1_ n2_ n3_ n4_ n5_ n6_ n7_ n8_ n9_
    (try clear hb)
    (try clear hb2)
    (try clear hk)
    (try clear hi)
    refine hK.out _ _ ⟨(blk_cell BK132.out 0).trans rfl, (blk_cell BK132.out 1).trans rfl, (blk_cell BK132.out 2).trans rfl, (blk_cell BK132.out 3).trans rfl, (blk_cell BK132.out 4).trans rfl, (blk_cell BK132.out 5).trans rfl, (blk_cell BK102.out 0).trans rfl, (blk_cell BK102.out 1).trans rfl, (blk_cell BK102.out 2).trans rfl⟩ (fun hHeld => ?_)
    clear hK K
    refine norm_ (a' := ?_) ?_ ?_
    rotate_left
    ·
     show Act.put _ (some 28) _ = _
     simp only [Act.put, List.setIfInBounds_toArray, List.set_cons_zero, List.set_cons_succ, i64_w, i32_w]
     rfl
    refine pure_ (i := 5) (N := some 10) (v := ?_) (a' := ?_) #[true, true, true, true, true, true] rfl rfl (by kernel_rfl) (fun _ _ _ h => h) (Or.inl ⟨(by rfl), ?_⟩) ?_ ?_
    rotate_left
    ·
     intro w'
     go_simp
     with_reducible rfl
    rotate_left
    ·
     simp only [Act.put, List.setIfInBounds_toArray, List.set_cons_zero, List.set_cons_succ, i64_w, i32_w]
     rfl
    refine done_ (by kernel_rfl) ?_
    try go_wp2
    have n0_ := am_ (Kd.S_drew HO106.out)
    have n1_ := am_ (Kd.R_drew HO109.out)
    have n2_ := am_ (Kd.R_drew HO115.out)
    have n3_ := am_ (Kd.S_drew HO122.out)
    have n4_ := am_ (Kd.R_drew HO125.out)
    have n5_ := am_ (Kd.R_drew HO131.out)
    have n6_ := am_ (blk_drew BK101.out)
    have n7_ := am_ (blk_drew BK102.out)
    have n8_ := am_ (blk_drew BK132.out)
    have n9_ := am_ (below_drew1 HB.out)
    clear HO106
    clear HO109
    clear HO115
    clear HO122
    clear HO125
    clear HO131
    clear BK101
    clear BK102
    clear BK132
    clear HB
    have HO106 := n0_
    have HO109 := n1_
    have HO115 := n2_
    have HO122 := n3_
    have HO125 := n4_
    have HO131 := n5_
    have BK101 := n6_
    have BK102 := n7_
    have BK132 := n8_
    have HB := n9_
    clear n0_ n1_ n2_ n3_ n4_ n5_ n6_ n7_ n8_ n9_
    refine start_ (n := 5) (S := fun w' => w'.cell? ⟨gb132, 0, none⟩ = some (.slice Ao36 t120.length co36) ∧ w'.cell? ⟨gb132, 1, none⟩ = some (.slice Ao40 t123.length co40) ∧ w'.cell? ⟨gb132, 2, none⟩ = some (.int .i64 t126) ∧ w'.cell? ⟨gb132, 3, none⟩ = some (.int .i64 t127) ∧ w'.cell? ⟨gb132, 4, none⟩ = some (.int .i64 t128) ∧ w'.cell? ⟨gb132, 5, none⟩ = some (.slice Ao41 t129.length co41) ∧ w'.cell? ⟨gb101, 0, none⟩ = some (.slice A0_0 l0_0.length c0_0) ∧ w'.cell? ⟨gb101, 1, none⟩ = some (.slice A0_1 l0_1.length c0_1) ∧ w'.cell? ⟨gb101, 2, none⟩ = some (.int .i64 a0_2) ∧ w'.cell? ⟨gb101, 3, none⟩ = some (.int .i64 a0_3) ∧ w'.cell? ⟨gb101, 4, none⟩ = some (.int .i64 a0_4) ∧ w'.cell? ⟨gb101, 5, none⟩ = some (.slice A0_5 l0_5.length c0_5)) (ds := []) #[false, false, false, false, false] (by kernel_rfl) rfl rfl ⟨(blk_cell BK132.out 0).trans rfl, (blk_cell BK132.out 1).trans rfl, (blk_cell BK132.out 2).trans rfl, (blk_cell BK132.out 3).trans rfl, (blk_cell BK132.out 4).trans rfl, (blk_cell BK132.out 5).trans rfl, (blk_cell BK101.out 0).trans rfl, (blk_cell BK101.out 1).trans rfl, (blk_cell BK101.out 2).trans rfl, (blk_cell BK101.out 3).trans rfl, (blk_cell BK101.out 4).trans rfl, (blk_cell BK101.out 5).trans rfl⟩ (fun hHeld => ?_)
    generalize w45.drew = w46 at HO106 HO109 HO115 HO122 HO125 HO131 BK101 BK102 BK132 HB hHeld ⊢
    refine take_ (i := 0) (N := some 32) (v := ?_) (a' := ?_) #[true, false, false, false, false] rfl rfl (by kernel_rfl) (fun _ _ _ h => h) (Or.inl ⟨(by rfl), ?_⟩) hHeld ?_ ?_
    rotate_left
    ·
     rintro w' ⟨s0, s1, s2, s3, s4, s5, s6, s7, s8, s9, s10, s11⟩
     go_simp
     with_reducible rfl
    rotate_left
    ·
     simp only [Act.put, List.setIfInBounds_toArray, List.set_cons_zero, List.set_cons_succ, i64_w, i32_w]
     rfl
    refine take_ (i := 1) (N := some 33) (v := ?_) (a' := ?_) #[true, true, false, false, false] rfl rfl (by kernel_rfl) (fun _ _ _ h => h) (Or.inl ⟨(by rfl), ?_⟩) hHeld ?_ ?_
    rotate_left
    ·
     rintro w' ⟨s0, s1, s2, s3, s4, s5, s6, s7, s8, s9, s10, s11⟩
     go_simp
     with_reducible rfl
    rotate_left
    ·
     simp only [Act.put, List.setIfInBounds_toArray, List.set_cons_zero, List.set_cons_succ, i64_w, i32_w]
     rfl
    refine one_ (i := 2) (N := some 34) #[true, true, true, false, false] rfl rfl (by kernel_rfl) (by decide) (fun K hK => ?_)
    refine goes_ Try.func16 (by kernel_rfl) rfl #[.agg #[.slice A0_0 l0_0.length c0_0, .slice A0_1 l0_1.length c0_1, .int .i64 a0_2, .int .i64 a0_3, .int .i64 a0_4, .slice A0_5 l0_5.length c0_5]] (by rfl) rfl rfl qz3_ ?_
    with_reducible refine (laws_toOpening.calls k _ _ l0_0 _ _ l0_1 a0_2 a0_3 a0_4 _ _ l0_5 t137 t140 t143 t144 t145 t146 _ ?side1 ?side2 ?side3 ?side4 ?side5 ?side6 A18.out).mono ?_
    (case side1 => exact qc_ (Kd.C_below HR0_0.out HB.out))
    (case side2 => exact HC0_0.out)
    (case side3 => exact qc_ (Kd.C_below HR0_1.out HB.out))
    (case side4 => exact HC0_1.out)
    (case side5 => exact qc_ (Kd.C_below HR0_5.out HB.out))
    (case side6 => exact HC0_5.out)
    rintro e w47 ⟨v138, v141, v147, rfl, ho0, ho1, ho2, hb⟩
    refine ⟨_, rfl, ?_⟩
    have n0_ := am_ (Kd.S_elder' qz27_ (Kd.S_base ho0) hb)
    have n1_ := am_ (Kd.R_elder' qz28_ (Kd.R_base ho1) hb)
    have n2_ := am_ (Kd.R_mono (Kd.R_told (Kd.R_told (Kd.R_old qz29_ hb) (Kd.R_base ho1)) (Kd.R_base ho2)) (fun _ h_ => h_.1))
    have n3_ := am_ (Kd.S_elder' qz30_ (Kd.S_base ho0) hb)
    have n4_ := am_ (Kd.R_elder' qz31_ (Kd.R_base ho1) hb)
    have n5_ := am_ (Kd.R_mono (Kd.R_told (Kd.R_told (Kd.R_old qz32_ hb) (Kd.R_base ho1)) (Kd.R_base ho2)) (fun _ h_ => h_.1))
    have n6_ := am_ (Kd.S_lower (Kd.S_new' (Kd.S_new' ho0 (Kd.S_lt qz27_)) (Kd.S_lt qz30_)) (below_size qz33_))
    have n7_ := am_ (Kd.R_lower (Kd.R_new' (Kd.R_new' ho1 (Kd.R_lt qz28_)) (Kd.R_lt qz31_)) (below_size qz33_))
    have n8_ := am_ (Kd.R_lower (Kd.R_new' (Kd.R_new' (Kd.R_new' (Kd.R_new' ho2 (Kd.R_lt qz28_)) (Kd.R_lt qz29_)) (Kd.R_lt qz31_)) (Kd.R_lt qz32_)) (below_size qz33_))
    have n9_ := am_ (blk_below (g := gb101) (o := .cells #[.slice A0_0 l0_0.length c0_0, .slice A0_1 l0_1.length c0_1, .int .i64 a0_2, .int .i64 a0_3, .int .i64 a0_4, .slice A0_5 l0_5.length c0_5] 39 (0, 0)) qz7_ hb)
    have n10_ := am_ (blk_below (g := gb102) (o := .cells #[.int .i64 a2_0, .int .i64 a2_1, .int .i64 a2_2] 41 (0, 0)) qz8_ hb)
    have n11_ := am_ (blk_below (g := gb132) (o := .cells #[.slice Ao36 t120.length co36, .slice Ao40 t123.length co40, .int .i64 t126, .int .i64 t127, .int .i64 t128, .slice Ao41 t129.length co41] 47 (0, 0)) (by (with_reducible repeat (first | refine blk_drewN ?_ _ | refine blk_drew ?_ | refine blk_alloc ?_ _)); exact BK132.out) hb)
    have n12_ := am_ (below_step qz33_ hb)
    clear HO106
    clear HO109
    clear HO115
    clear HO122
    clear HO125
    clear HO131
    clear BK101
    clear BK102
    clear BK132
    clear HB
    have HO106 := n0_
    have HO109 := n1_
    have HO115 := n2_
    have HO122 := n3_
    have HO125 := n4_
    have HO131 := n5_
    have HO139 := n6_
    have HO142 := n7_
    have HO148 := n8_
    have BK101 := n9_
    have BK102 := n10_
    have BK132 := n11_
    have HB := n12_
    clear n0_ n1_ n2_ n3_ n4_ n5_ n6_ n7_ n8_ n9_ n10_ n11_ n12_
    (try clear hb)
    (try clear hb2)
    (try clear hk)
    (try clear hi)
    (try clear ho0)
    (try clear ho1)
    (try clear ho2)
    obtain ⟨Ao48, co48, eo48⟩ := Kd.S_slice HO139.out
    (first | subst eo48 | (injection eo48 with f1_ f2_ f3_; have f4_ := f1_.symm; have f5_ := f3_.symm; clear f1_ f2_ f3_; subst f4_; subst f5_))
    obtain ⟨Ao49, co49, eo49⟩ := Kd.R_slice HO142.out
    (first | subst eo49 | (injection eo49 with f1_ f2_ f3_; have f4_ := f1_.symm; have f5_ := f3_.symm; clear f1_ f2_ f3_; subst f4_; subst f5_))
    obtain ⟨Ao50, co50, eo50⟩ := Kd.R_slice HO148.out
    (first | subst eo50 | (injection eo50 with f1_ f2_ f3_; have f4_ := f1_.symm; have f5_ := f3_.symm; clear f1_ f2_ f3_; subst f4_; subst f5_))
    refine hK.out _ _ ⟨(blk_cell BK132.out 0).trans rfl, (blk_cell BK132.out 1).trans rfl, (blk_cell BK132.out 2).trans rfl, (blk_cell BK132.out 3).trans rfl, (blk_cell BK132.out 4).trans rfl, (blk_cell BK132.out 5).trans rfl, (blk_cell BK101.out 0).trans rfl, (blk_cell BK101.out 1).trans rfl, (blk_cell BK101.out 2).trans rfl, (blk_cell BK101.out 3).trans rfl, (blk_cell BK101.out 4).trans rfl, (blk_cell BK101.out 5).trans rfl⟩ (fun hHeld => ?_)
    clear hK K
    refine norm_ (a' := ?_) ?_ ?_
    rotate_left
    ·
     show Act.put _ (some 34) _ = _
     simp only [Act.put, List.setIfInBounds_toArray, List.set_cons_zero, List.set_cons_succ, i64_w, i32_w]
     rfl
    refine one_ (i := 3) (N := some 35) #[true, true, true, true, false] rfl rfl (by kernel_rfl) (by decide) (fun K hK => ?_)
    refine goes_ Try.func19 (by kernel_rfl) rfl #[.agg #[.slice Ao36 t120.length co36, .slice Ao40 t123.length co40, .int .i64 t126, .int .i64 t127, .int .i64 t128, .slice Ao41 t129.length co41], .agg #[.slice Ao48 t137.length co48, .slice Ao49 t140.length co49, .int .i64 t143, .int .i64 t144, .int .i64 t145, .slice Ao50 t146.length co50]] (by rfl) rfl rfl qz3_ ?_
    with_reducible refine (laws_eqOpening.calls k _ _ t120 _ _ t123 t126 t127 t128 _ _ t129 _ _ t137 _ _ t140 t143 t144 t145 _ _ t146 true _ ?side1 ?side2 ?side3 ?side4 ?side5 ?side6 ?side7 ?side8 ?side9 ?side10 ?side11 ?side12 A19.out).mono ?_
    (case side1 => exact qc_ (Kd.S_reads' HO122.out).2.2)
    (case side2 => exact (Kd.S_reads' HO122.out).2.1)
    (case side3 => exact qc_ (Kd.R_reads' HO125.out).2.2)
    (case side4 => exact (Kd.R_reads' HO125.out).2.1)
    (case side5 => exact qc_ (Kd.R_reads' HO131.out).2.2)
    (case side6 => exact (Kd.R_reads' HO131.out).2.1)
    (case side7 => exact qc_ (Kd.S_reads' HO139.out).2.2)
    (case side8 => exact (Kd.S_reads' HO139.out).2.1)
    (case side9 => exact qc_ (Kd.R_reads' HO142.out).2.2)
    (case side10 => exact (Kd.R_reads' HO142.out).2.1)
    (case side11 => exact qc_ (Kd.R_reads' HO148.out).2.2)
    (case side12 => exact (Kd.R_reads' HO148.out).2.1)
    rintro e w51 ⟨rfl, hb⟩
    refine ⟨_, rfl, ?_⟩
    have n0_ := am_ (Kd.S_below qz27_ hb)
    have n1_ := am_ (Kd.R_below qz28_ hb)
    have n2_ := am_ (Kd.R_below qz29_ hb)
    have n3_ := am_ (Kd.S_below qz30_ hb)
    have n4_ := am_ (Kd.R_below qz31_ hb)
    have n5_ := am_ (Kd.R_below qz32_ hb)
    have n6_ := am_ (Kd.S_below (by (with_reducible repeat (first | apply Kd.S_alloc | apply Kd.S_drewN | apply Kd.S_drew)); exact HO139.out) hb)
    have n7_ := am_ (Kd.R_below (by (with_reducible repeat (first | apply Kd.R_alloc | apply Kd.R_drewN | apply Kd.R_drew)); exact HO142.out) hb)
    have n8_ := am_ (Kd.R_below (by (with_reducible repeat (first | apply Kd.R_alloc | apply Kd.R_drewN | apply Kd.R_drew)); exact HO148.out) hb)
    have n9_ := am_ (blk_below (g := gb101) (o := .cells #[.slice A0_0 l0_0.length c0_0, .slice A0_1 l0_1.length c0_1, .int .i64 a0_2, .int .i64 a0_3, .int .i64 a0_4, .slice A0_5 l0_5.length c0_5] 39 (0, 0)) qz7_ hb)
    have n10_ := am_ (blk_below (g := gb102) (o := .cells #[.int .i64 a2_0, .int .i64 a2_1, .int .i64 a2_2] 41 (0, 0)) qz8_ hb)
    have n11_ := am_ (blk_below (g := gb132) (o := .cells #[.slice Ao36 t120.length co36, .slice Ao40 t123.length co40, .int .i64 t126, .int .i64 t127, .int .i64 t128, .slice Ao41 t129.length co41] 47 (0, 0)) (by (with_reducible repeat (first | refine blk_drewN ?_ _ | refine blk_drew ?_ | refine blk_alloc ?_ _)); exact BK132.out) hb)
    have n12_ := am_ (below_step qz33_ hb)
    clear HO106
    clear HO109
    clear HO115
    clear HO122
    clear HO125
    clear HO131
    clear HO139
    clear HO142
    clear HO148
    clear BK101
    clear BK102
    clear BK132
    clear HB
    have HO106 := n0_
    have HO109 := n1_
    have HO115 := n2_
    have HO122 := n3_
    have HO125 := n4_
    have HO131 := n5_
    have HO139 := n6_
    have HO142 := n7_
    have HO148 := n8_
    have BK101 := n9_
    have BK102 := n10_
    have BK132 := n11_
    have HB := n12_
    clear n0_ n1_ n2_ n3_ n4_ n5_ n6_ n7_ n8_ n9_ n10_ n11_ n12_
    (try clear hb)
    (try clear hb2)
    (try clear hk)
    (try clear hi)
    refine hK.out _ _ ⟨(blk_cell BK132.out 0).trans rfl, (blk_cell BK132.out 1).trans rfl, (blk_cell BK132.out 2).trans rfl, (blk_cell BK132.out 3).trans rfl, (blk_cell BK132.out 4).trans rfl, (blk_cell BK132.out 5).trans rfl, (blk_cell BK101.out 0).trans rfl, (blk_cell BK101.out 1).trans rfl, (blk_cell BK101.out 2).trans rfl, (blk_cell BK101.out 3).trans rfl, (blk_cell BK101.out 4).trans rfl, (blk_cell BK101.out 5).trans rfl⟩ (fun hHeld => ?_)
    clear hK K
    refine norm_ (a' := ?_) ?_ ?_
    rotate_left
    ·
     show Act.put _ (some 35) _ = _
     simp only [Act.put, List.setIfInBounds_toArray, List.set_cons_zero, List.set_cons_succ, i64_w, i32_w]
     rfl
    refine pure_ (i := 4) (N := some 36) (v := ?_) (a' := ?_) #[true, true, true, true, true] rfl rfl (by kernel_rfl) (fun _ _ _ h => h) (Or.inl ⟨(by rfl), ?_⟩) ?_ ?_
    rotate_left
    ·
     intro w'
     go_simp
     with_reducible rfl
    rotate_left
    ·
     simp only [Act.put, List.setIfInBounds_toArray, List.set_cons_zero, List.set_cons_succ, i64_w, i32_w]
     rfl
    refine done_ (by kernel_rfl) ?_
    try go_wp2
    go_ret
    exact ⟨qz5_, qz33_⟩
   ·
    replace c20 := Bool.eq_false_iff.mpr c20
    subst c20
    have H1 : (some false) = some r := by rw [if_neg (show ¬ (false = true) by decide)] at H; exact H
    clear H
    have H := H1
    clear H1
    exact absurd ((Option.some.inj H).trans hr_) (by decide)

end Go.Proofs.Ytcfdefkpheeibaa.PT
end
section
/- Arguments that are read as data have the kinds' own form: for each kind, compositionally. Own text, for every seat (Ytcfdefkpheeibaa: the seat's name). -/
namespace Go.Proofs.YtcfdefkpheeibaaO
open Go.RowKit Go.ChangeShapes Go.WideShapes Go.ChangeAt Go.Proofs.YtcfdefkpheeibaaW.PrintWords

/-- What is read as data of type T is of the kind d, and good. -/
def Opens {α : Type} {H : Type} (enc : TypeId × Value → H) (P : Program) (w : World) (T : TypeId) (d : Kd α) (good : α → Prop) : Prop :=
 ∀ (fuel : Nat) (cs : List Value) (x : DataW H × List MemPlace), DataW.trod enc P w 0 (fun _ => true) true fuel T cs = some x → ∃ a, d.K w a cs ∧ good a

/-- What is read as a run of fields of these types (each with its cells) is of the kind d, and good. -/
def OpensSeq {α : Type} {H : Type} (enc : TypeId × Value → H) (P : Program) (w : World) (fs : List (TypeId × Nat)) (d : Kd α) (good : α → Prop) : Prop :=
 ∀ (fuel : Nat) (cs : List Value), cs.length = (fs.map (·.2)).sum → (∀ (j : Nat) (T n : Nat), fs[j]? = some (T, n) → ∃ x, DataW.trod enc P w 0 (fun _ => true) true fuel T ((cs.drop ((fs.take j).map (·.2)).sum).take n) = some x) → ∃ a, d.K w a cs ∧ good a

section
variable {H : Type} {enc : TypeId × Value → H} {P : Program} {w : World}

def IntGood (k : IntKind) (a : Int) : Prop := (Lit.int k a).wf = true
def StrGood (a : ByteArray) : Prop := a.size ≤ 9223372036854775807
def ListGood {α : Type} (g : α → Prop) (l : List α) : Prop := l.length ≤ 9223372036854775807 ∧ ∀ x ∈ l, g x

theorem opens_int {T : TypeId} {k : IntKind} (ht : P.underlying T = some (.int k)) : Opens enc P w T (Kd.int k) (IntGood k) := by
 intro fuel cs x h
 obtain ⟨n, rfl, _, hw⟩ := DataW.trod_int ht h
 exact ⟨n, rfl, hw⟩
theorem opens_bool {T : TypeId} (ht : P.underlying T = some .bool) : Opens enc P w T Kd.bool (fun _ => True) := by
 intro fuel cs x h
 obtain ⟨n, rfl, _⟩ := DataW.trod_bool ht h
 exact ⟨n, rfl, trivial⟩
theorem opens_string {T : TypeId} (ht : P.underlying T = some .string) : Opens enc P w T Kd.string StrGood := by
 intro fuel cs x h
 obtain ⟨s, rfl, _, hs⟩ := DataW.trod_string ht h
 exact ⟨s, rfl, (by unfold StrGood; unfold maxLen at hs; omega)⟩

theorem choose_list {α : Type} {n : Nat} {p : Nat → α → Prop} (h : ∀ i, i < n → ∃ a, p i a) : ∃ l : List α, l.length = n ∧ ∀ i a, l[i]? = some a → p i a := by
 induction n with
 | zero => exact ⟨[], rfl, fun i a hi => by simp at hi⟩
 | succ n ih =>
  obtain ⟨l, hl, hp⟩ := ih (fun i hi => h i (by omega))
  obtain ⟨a, ha⟩ := h n (by omega)
  refine ⟨l ++ [a], (by simp [hl]), fun i b hi => ?_⟩
  rcases Nat.lt_or_ge i l.length with hlt | hge
  ·
   rw [List.getElem?_append_left hlt] at hi
   exact hp i b hi
  ·
   rw [List.getElem?_append_right hge] at hi
   have : i - l.length = 0 := by
    rcases Nat.eq_zero_or_pos (i - l.length) with h0 | h0
    ·
     exact h0
    ·
     rw [List.getElem?_eq_none (by simp; omega)] at hi; simp at hi
   rw [this] at hi
   simp at hi
   subst hi
   have : i = n := by omega
   rw [this]
   exact ha

theorem opens_slice {α : Type} {d : Kd α} {good : α → Prop} {T e : TypeId} (ht : P.underlying T = some (.slice e)) (hc : P.cellsOf e = d.sz) (ho : Opens enc P w e d good) : Opens enc P w T (Kd.slice e d) (ListGood good) := by
 intro fuel cs x h
 rcases Deep.open_slice ht h with ⟨rfl, _⟩ | ⟨a, len, cap, m, n, D, Pl, rfl, _, hl, hm, hmm, _, hx⟩
 ·
  exact ⟨[], ⟨none, 0, rfl, Nat.le_refl _, ⟨rfl, (by simp), fun h0 => by simp at h0⟩⟩, ⟨(by simp), fun x hx => by simp at hx⟩⟩
 ·
  have hle : len ≤ m := by rw [hmm]; split <;> omega
  have hex : ∀ i, i < len → ∃ b : α, (∃ c, c.length = d.sz ∧ d.K w b c ∧ ∀ j u, c[j]? = some u → w.cell? (a.add (i * d.sz + j)) = some u) ∧ good b := by
   intro i hi
   obtain ⟨cs', h1, h2⟩ := hx i (by omega)
   obtain ⟨b, hK, hg⟩ := ho _ _ _ h2
   obtain ⟨_, hlen, hcell⟩ := World.cells?_some h1
   refine ⟨b, ⟨cs', (by rw [hlen, hc]), hK, fun j u hu => ?_⟩, hg⟩
   have hj : j < P.cellsOf e := by
    rw [← hlen]
    exact (List.getElem?_eq_some_iff.1 hu).1
   rw [← Deep.add_add, ← hc, hcell j hj, hu]
  obtain ⟨l, hll, hp⟩ := choose_list hex
  unfold maxLen at hm
  refine ⟨l, ⟨some a, cap, by rw [hll], by omega, ⟨rfl, by omega, fun _ => ⟨a, rfl, fun j p hj => (hp j p hj).1⟩⟩⟩, ⟨(by omega), fun x hx => ?_⟩⟩
  obtain ⟨i, hi, rfl⟩ := List.getElem_of_mem hx
  exact (hp i _ (List.getElem?_eq_getElem hi)).2

theorem opensSeq_one {α : Type} {d : Kd α} {good : α → Prop} {T n : Nat} (ho : Opens enc P w T d good) : OpensSeq enc P w [(T, n)] d good := by
 intro fuel cs hlen h
 obtain ⟨x, hx⟩ := h 0 T n rfl
 simp at hlen
 simp [List.take_of_length_le (Nat.le_of_eq hlen)] at hx
 exact ho _ _ _ hx
theorem opensSeq_cons {α β : Type} {d : Kd α} {good : α → Prop} {d2 : Kd β} {good2 : β → Prop} {T n : Nat} {fs : List (TypeId × Nat)} (ho : Opens enc P w T d good) (hs : OpensSeq enc P w fs d2 good2) :
  OpensSeq enc P w ((T, n) :: fs) (Kd.pair d d2) (fun x => good x.1 ∧ good2 x.2) := by
 intro fuel cs hlen h
 obtain ⟨x, hx⟩ := h 0 T n rfl
 simp at hx
 obtain ⟨a, hK, hg⟩ := ho _ _ _ hx
 simp only [List.map_cons, List.sum_cons] at hlen
 obtain ⟨b, hK2, hg2⟩ := hs fuel (cs.drop n) (by rw [List.length_drop, hlen]; omega) (fun j T' n' hj => by
  obtain ⟨y, hy⟩ := h (j + 1) T' n' (by simpa using hj)
  refine ⟨y, ?_⟩
  simp only [List.take_succ_cons, List.map_cons, List.sum_cons] at hy
  rw [List.drop_drop]
  exact hy)
 exact ⟨(a, b), ⟨cs.take n, cs.drop n, (List.take_append_drop n cs).symm, hK, hK2⟩, hg, hg2⟩

/-- A struct whose fields stand one behind the other. -/
theorem opens_struct {α β : Type} {d : Kd α} {good : α → Prop} {T : TypeId} {fs : Array Field} {l : List (TypeId × Nat)} (f : β → α) (g : α → β) (hfg : ∀ a, f (g a) = a) (ht : P.underlying T = some (.struct fs))
  (hl : l.length = fs.size) (hf : ∀ (j : Nat) (T' n : Nat), l[j]? = some (T', n) → ∃ fd, fs[j]? = some fd ∧ fd.type = T' ∧ P.cellsOf T' = n ∧ fd.offset = ((l.take j).map (·.2)).sum) (hc : P.cellsOf T = (l.map (·.2)).sum)
  (hs : OpensSeq enc P w l d good) : Opens enc P w T (Kd.iso d f) (fun x => good (f x)) := by
 intro fuel cs x h
 obtain ⟨xs, n, _, _, hlen, hxl, hx⟩ := DataW.trod_struct ht h
 obtain ⟨a, hK, hg⟩ := hs n cs (by rw [hlen, hc]) (fun j T' n' hj => by
  obtain ⟨fd, h1, h2, h3, h4⟩ := hf j T' n' hj
  have h5 := hx j fd h1
  have hj2 : j < xs.length := by
   have := (List.getElem?_eq_some_iff.1 hj).1
   omega
  rw [List.getElem?_eq_getElem hj2, h2, h3, h4] at h5
  exact ⟨_, h5⟩)
 refine ⟨g a, ?_, ?_⟩
 ·
  show d.K w (f (g a)) cs
  rw [hfg]; exact hK
 ·
  show good (f (g a))
  rw [hfg]; exact hg
end
end Go.Proofs.YtcfdefkpheeibaaO
end
section
namespace Go.Proofs.Ytcfdefkpheeibaa.fnExactOpeningOK
open Go.RowKit Go.ChangeShapes Go.WideShapes Go.ChangeAt Go.Proofs.YtcfdefkpheeibaaO Go.Proofs.Ytcfdefkpheeibaa.PT Go.Proofs.YtcfdefkpheeibaaW.PrintWords Go.Proofs.YtcfdefkpheeibaaW.PrintLast
set_option linter.unusedVariables false
theorem opensT3 {H : Type} {enc : TypeId × Value → H} {w : World} : Opens enc Try.prog w 3 (Kd.int .i64) (IntGood .i64) := opens_int Try.underlying3
def goodT36 : S36 → Prop := (fun x : S36 => (IntGood .i64) x.f0 ∧ (IntGood .i64) x.f1)
theorem opensT36 {H : Type} {enc : TypeId × Value → H} {w : World} : Opens enc Try.prog w 36 k36 goodT36 :=
 opens_struct (l := [(3, 1), (3, 1)]) (fun x : S36 => (x.f0, x.f1)) (fun a => ⟨a.1, a.2⟩) (fun _ => rfl) Try.underlying36 rfl (fun j T n h => match j, T, n, h with
  | 0, _, _, h => by cases h; exact ⟨_, rfl, rfl, (by kernel_rfl), rfl⟩
  | 1, _, _, h => by cases h; exact ⟨_, rfl, rfl, (by kernel_rfl), rfl⟩
  | _ + 2, _, _, h => by simp at h) (by kernel_rfl) (opensSeq_cons opensT3 (opensSeq_one opensT3))
theorem opensT54 {H : Type} {enc : TypeId × Value → H} {w : World} : Opens enc Try.prog w 54 (Kd.slice 36 k36) (ListGood goodT36) := opens_slice Try.underlying54 (by kernel_rfl) opensT36
theorem opensT22 {H : Type} {enc : TypeId × Value → H} {w : World} : Opens enc Try.prog w 22 (Kd.slice 54 (Kd.slice 36 k36)) (ListGood (ListGood goodT36)) := opens_slice Try.underlying22 (by kernel_rfl) opensT54
theorem opensT9 {H : Type} {enc : TypeId × Value → H} {w : World} : Opens enc Try.prog w 9 Kd.string StrGood := opens_string Try.underlying9
theorem opensT34 {H : Type} {enc : TypeId × Value → H} {w : World} : Opens enc Try.prog w 34 (Kd.slice 9 Kd.string) (ListGood StrGood) := opens_slice Try.underlying34 (by kernel_rfl) opensT9
theorem opensT65 {H : Type} {enc : TypeId × Value → H} {w : World} : Opens enc Try.prog w 65 (Kd.slice 34 (Kd.slice 9 Kd.string)) (ListGood (ListGood StrGood)) := opens_slice Try.underlying65 (by kernel_rfl) opensT34
def goodT86 : S86 → Prop := (fun x : S86 => (ListGood goodT36) x.f0 ∧ (ListGood (ListGood StrGood)) x.f1)
theorem opensT86 {H : Type} {enc : TypeId × Value → H} {w : World} : Opens enc Try.prog w 86 k86 goodT86 :=
 opens_struct (l := [(54, 1), (65, 1)]) (fun x : S86 => (x.f0, x.f1)) (fun a => ⟨a.1, a.2⟩) (fun _ => rfl) Try.underlying86 rfl (fun j T n h => match j, T, n, h with
  | 0, _, _, h => by cases h; exact ⟨_, rfl, rfl, (by kernel_rfl), rfl⟩
  | 1, _, _, h => by cases h; exact ⟨_, rfl, rfl, (by kernel_rfl), rfl⟩
  | _ + 2, _, _, h => by simp at h) (by kernel_rfl) (opensSeq_cons opensT54 (opensSeq_one opensT65))
theorem opensT37 {H : Type} {enc : TypeId × Value → H} {w : World} : Opens enc Try.prog w 37 (Kd.slice 86 k86) (ListGood goodT86) := opens_slice Try.underlying37 (by kernel_rfl) opensT86
def goodT39 : S39 → Prop := (fun x : S39 => (ListGood (ListGood goodT36)) x.f0 ∧ (ListGood StrGood) x.f1 ∧ goodT36 x.f2 ∧ (IntGood .i64) x.f3 ∧ (ListGood goodT86) x.f4)
theorem opensT39 {H : Type} {enc : TypeId × Value → H} {w : World} : Opens enc Try.prog w 39 k39 goodT39 :=
 opens_struct (l := [(22, 1), (34, 1), (36, 2), (3, 1), (37, 1)]) (fun x : S39 => (x.f0, x.f1, x.f2, x.f3, x.f4)) (fun a => ⟨a.1, a.2.1, a.2.2.1, a.2.2.2.1, a.2.2.2.2⟩) (fun _ => rfl) Try.underlying39 rfl (fun j T n h => match j, T, n, h with
  | 0, _, _, h => by cases h; exact ⟨_, rfl, rfl, (by kernel_rfl), rfl⟩
  | 1, _, _, h => by cases h; exact ⟨_, rfl, rfl, (by kernel_rfl), rfl⟩
  | 2, _, _, h => by cases h; exact ⟨_, rfl, rfl, (by kernel_rfl), rfl⟩
  | 3, _, _, h => by cases h; exact ⟨_, rfl, rfl, (by kernel_rfl), rfl⟩
  | 4, _, _, h => by cases h; exact ⟨_, rfl, rfl, (by kernel_rfl), rfl⟩
  | _ + 5, _, _, h => by simp at h) (by kernel_rfl) (opensSeq_cons opensT22 (opensSeq_cons opensT34 (opensSeq_cons opensT36 (opensSeq_cons opensT3 (opensSeq_one opensT37)))))
def goodT41 : S41 → Prop := (fun x : S41 => (IntGood .i64) x.f0 ∧ (IntGood .i64) x.f1 ∧ (IntGood .i64) x.f2)
theorem opensT41 {H : Type} {enc : TypeId × Value → H} {w : World} : Opens enc Try.prog w 41 k41 goodT41 :=
 opens_struct (l := [(3, 1), (3, 1), (3, 1)]) (fun x : S41 => (x.f0, x.f1, x.f2)) (fun a => ⟨a.1, a.2.1, a.2.2⟩) (fun _ => rfl) Try.underlying41 rfl (fun j T n h => match j, T, n, h with
  | 0, _, _, h => by cases h; exact ⟨_, rfl, rfl, (by kernel_rfl), rfl⟩
  | 1, _, _, h => by cases h; exact ⟨_, rfl, rfl, (by kernel_rfl), rfl⟩
  | 2, _, _, h => by cases h; exact ⟨_, rfl, rfl, (by kernel_rfl), rfl⟩
  | _ + 3, _, _, h => by simp at h) (by kernel_rfl) (opensSeq_cons opensT3 (opensSeq_cons opensT3 (opensSeq_one opensT3)))
/-- What is to be shown of the law, over numbers and lists alone. -/
def Pure : Prop := ∀ (x0 : S39) (x1 : Int) (x2 : S41), goodT39 x0 → (IntGood .i64) x1 → goodT41 x2 → ∃ k, laws_FnExactOpeningOK.f k x0.f0 x0.f1 x0.f2.f0 x0.f2.f1 x0.f3 x0.f4 x1 x2.f0 x2.f1 x2.f2 = some true
end Go.Proofs.Ytcfdefkpheeibaa.fnExactOpeningOK
end
section
/- The field and the greater field, over whole numbers: what the printed functions of chapters 2 and 3 come to. -/
namespace Go.Proofs.Ytcfdefkpheeibaa.PT
open Go.RowKit Go.Proofs.YtcfdefkpheeibaaW.PrintWords Go.Proofs.YtcfdefkpheeibaaW.PrintLast Go.Proofs.YtcfdefkpheeibaaW.PrintMore
set_option linter.unusedVariables false
set_option linter.unusedSimpArgs false

abbrev E := S44
abbrev LE := S36
theorem rdE (l : List E) (i : Int) : rd_T44 l i = l.getD i.toNat z44 := rfl
theorem rdL (l : List LE) (i : Int) : rd_T36 l i = l.getD i.toNat z36 := rfl
instance : DecidableEq S44 := fun x y => decidable_of_iff (x.f0 = y.f0 ∧ x.f1 = y.f1) ⟨fun h => by cases x; cases y; simp_all, fun h => by rw [h]; exact ⟨rfl, rfl⟩⟩
theorem E.ext_ {x y : E} (h0 : x.f0 = y.f0) (h1 : x.f1 = y.f1) : x = y := by cases x; cases y; simp_all
theorem LE.ext_ {x y : LE} (h0 : x.f0 = y.f0) (h1 : x.f1 = y.f1) : x = y := by cases x; cases y; simp_all

theorem w64 {n : Int} (h0 : -9223372036854775808 ≤ n) (h1 : n ≤ 9223372036854775807) : wrap64 n = n := by unfold wrap64; omega
def inF (a : Int) : Prop := 0 ≤ a ∧ a ≤ 2130706432
instance (a : Int) : Decidable (inF a) := by unfold inF; infer_instance
end Go.Proofs.Ytcfdefkpheeibaa.PT
end
section
/- What the printed functions of the field and of the greater field answer: the same sums and products on both sides. -/
namespace Go.Proofs.Ytcfdefkpheeibaa.PT
open Go.RowKit Go.Proofs.YtcfdefkpheeibaaW.PrintWords Go.Proofs.YtcfdefkpheeibaaW.PrintLast Go.Proofs.YtcfdefkpheeibaaW.PrintMore
set_option linter.unusedVariables false
set_option linter.unusedSimpArgs false

theorem impl_in_eq (a b c : Int) : impl_in.f a b c = some (decide (b ≤ a ∧ a ≤ c)) := by
 unfold impl_in.f; by_cases h : b ≤ a <;> simp [h]
theorem spec_l01In_eq (a b c : Int) : spec_l01In.f a b c = some (decide (b ≤ a ∧ a ≤ c)) := by
 unfold spec_l01In.f; by_cases h : b ≤ a <;> simp [h]
theorem impl_FieldOK_eq (a : Int) : impl_FieldOK.f a = some (decide (inF a)) := by
 unfold impl_FieldOK.f; rw [impl_in_eq]; rfl
theorem spec_FieldOK_eq (a : Int) : spec_FieldOK.f a = some (decide (inF a)) := by
 unfold spec_FieldOK.f; rw [spec_l01In_eq]; rfl
def okB (x : E) : Bool := decide (inF x.f0) && decide (inF x.f1)
theorem impl_ExtOK_eq (a b : Int) : impl_ExtOK.f a b = some (okB ⟨a, b⟩) := by
 unfold impl_ExtOK.f okB; rw [impl_FieldOK_eq, impl_FieldOK_eq]
 by_cases h : inF a <;> simp [h]
theorem spec_ExtOK_eq (a b : Int) : spec_ExtOK.f a b = some (okB ⟨a, b⟩) := by
 unfold spec_ExtOK.f okB; rw [spec_FieldOK_eq, spec_FieldOK_eq]
 by_cases h : inF a <;> simp [h]
/-! lists -/
def okLB (l : List E) : Bool := l.all okB
theorem impl_are_eq (l : List E) : impl_are_Ext_ExtOK.f l = some (okLB l) := by
 unfold impl_are_Ext_ExtOK.f okLB
 congr 2; funext x; unfold impl_are_Ext_ExtOK.p; rw [impl_ExtOK_eq]; rfl
theorem spec_l02List_l0 (l : List E) (hl : l.length ≤ 4611686018427387904) (d : Nat) : ∀ (k i : Nat), i + d = l.length → d < k → spec_l02List.l0 k l i = some ((l.drop i).all okB) := by
 induction d with
 | zero =>
  intro k i hi hk
  obtain ⟨k, rfl⟩ : ∃ m, k = m + 1 := ⟨k - 1, (by omega)⟩
  simp only [spec_l02List.l0]; rw [if_neg (by omega), List.drop_eq_nil_of_le (by omega)]; rfl
 | succ d ih =>
  intro k i hi hk
  obtain ⟨k, rfl⟩ : ∃ m, k = m + 1 := ⟨k - 1, (by omega)⟩
  have hlt : i < l.length := by omega
  simp only [spec_l02List.l0]
  rw [if_pos (by omega), if_pos (by omega), spec_ExtOK_eq, List.drop_eq_getElem_cons hlt]
  have hg : rd_T44 l (i : Int) = l[i] := by rw [rdE, Int.toNat_natCast, List.getD_eq_getElem?_getD, List.getElem?_eq_getElem hlt]; rfl
  rw [hg]
  simp only [Option.bind_some, List.all_cons]
  by_cases hb : okB l[i] = true
  ·
   have e : okB ⟨(l[i]).f0, (l[i]).f1⟩ = true := hb
   rw [e, if_pos rfl, w64 (by omega) (by omega), show (i : Int) + 1 = ((i + 1 : Nat) : Int) by omega, ih k (i + 1) (by omega) (by omega)]
   rfl
  ·
   replace hb := Bool.eq_false_iff.mpr hb
   have e : okB ⟨(l[i]).f0, (l[i]).f1⟩ = false := hb
   rw [e]; rfl
theorem spec_l02List_eq {l : List E} (hl : l.length ≤ 4611686018427387904) {k : Nat} (hk : l.length < k) : spec_l02List.f k l = some (okLB l) := by
 have := spec_l02List_l0 l hl l.length k 0 (by omega) hk
 unfold spec_l02List.f; exact this
end Go.Proofs.Ytcfdefkpheeibaa.PT
end
section
/- The laws' own helpers: elements copied, compared, marked; and powers of two. -/
namespace Go.Proofs.Ytcfdefkpheeibaa.PT
open Go.RowKit Go.Proofs.YtcfdefkpheeibaaW.PrintWords Go.Proofs.YtcfdefkpheeibaaW.PrintLast Go.Proofs.YtcfdefkpheeibaaW.PrintMore
set_option linter.unusedVariables false
set_option linter.unusedSimpArgs false

theorem szExtS_big {l : List LE} {a : Int} (ha : 0 ≤ a) (ha2 : a ≤ 1048576) (hl : l.length ≤ 9223372036854775807) (h : a < l.length) : laws_szExtS.f l a = some (-1) := by
 unfold laws_szExtS.f; rw [w64 (by omega) (by omega), if_pos (by omega)]
theorem szExtS_fit {l : List LE} {a : Int} (ha2 : a ≤ 1048576) (h : (l.length : Int) ≤ a) : laws_szExtS.f l a = some (a - l.length) := by
 unfold laws_szExtS.f; rw [w64 (by omega) (by omega), if_neg (by omega)]
def conv (x : LE) : E := ⟨x.f0, x.f1⟩
def convL (l : List LE) : List E := l.map conv
theorem convL_length (l : List LE) : (convL l).length = l.length := by simp [convL]
theorem getD_at {α : Type} {l : List α} {z : α} {i : Nat} (h : i < l.length) : l.getD i z = l[i] := by
 rw [List.getD_eq_getElem?_getD, List.getElem?_eq_getElem h]; rfl
theorem rdL_at {l : List LE} {i : Nat} (h : i < l.length) : rd_T36 l (i : Int) = l[i] := by rw [rdL, Int.toNat_natCast, getD_at h]
theorem set_mid {α : Type} (a b : List α) (x y : α) : (a ++ x :: b).set a.length y = a ++ y :: b := by
 rw [List.set_append_right _ _ (Nat.le_refl _)]; simp
theorem toExtS_l0 (l : List LE) (hl : l.length ≤ 4611686018427387904) (d : Nat) : ∀ (k i : Nat), i + d = l.length → d < k →
  laws_toExtS.l0 k l (convL (l.take i) ++ List.replicate d z44) i = some (convL l) := by
 induction d with
 | zero =>
  intro k i hi hk
  obtain ⟨k, rfl⟩ : ∃ m, k = m + 1 := ⟨k - 1, (by omega)⟩
  simp only [laws_toExtS.l0]; rw [if_neg (by omega), List.take_of_length_le (by omega)]; simp
 | succ d ih =>
  intro k i hi hk
  obtain ⟨k, rfl⟩ : ∃ m, k = m + 1 := ⟨k - 1, (by omega)⟩
  have hlt : i < l.length := by omega
  have hlen : (convL (l.take i)).length = i := by rw [convL_length, List.length_take]; omega
  simp only [laws_toExtS.l0]
  rw [if_pos (by omega), if_pos (by omega), rdL_at hlt]
  simp only [laws_toExt.f, Option.bind_some]
  rw [if_pos (by rw [List.length_append, hlen, List.length_replicate]; omega), Int.toNat_natCast, List.replicate_succ]
  have hs := set_mid (convL (l.take i)) (List.replicate d z44) z44 (conv l[i])
  rw [hlen] at hs
  show laws_toExtS.l0 k l ((convL (l.take i) ++ z44 :: List.replicate d z44).set i (conv l[i])) _ = _
  rw [hs, w64 (by omega) (by omega), show (i : Int) + 1 = ((i + 1 : Nat) : Int) by omega]
  have := ih k (i + 1) (by omega) (by omega)
  rw [List.take_succ_eq_append_getElem hlt] at this
  simp only [convL, List.map_append, List.map_cons, List.map_nil, List.append_assoc, List.cons_append, List.nil_append] at this
  exact this
theorem toExtS_eq {l : List LE} (hl : l.length ≤ 1048576) {k : Nat} (hk : l.length < k) : laws_toExtS.f k l = some (convL l) := by
 unfold laws_toExtS.f
 rw [if_pos (by omega), if_pos (by simp; omega)]
 have := toExtS_l0 l (by omega) l.length k 0 (by omega) hk
 simpa [convL] using this
theorem eqExt_eq (x y : E) : laws_eqExt.f x.f0 x.f1 y.f0 y.f1 = some (decide (x = y)) := by
 unfold laws_eqExt.f
 by_cases h0 : x.f0 = y.f0
 ·
  by_cases h1 : x.f1 = y.f1
  ·
   rw [if_pos h0, if_pos h1, decide_eq_true (E.ext_ h0 h1)]
  ·
   rw [if_pos h0, if_neg h1, decide_eq_false (fun e => h1 (by rw [e]))]
 ·
  rw [if_neg h0, decide_eq_false (fun e => h0 (by rw [e]))]
theorem eqExtS_l0 (a : List E) (hl : a.length ≤ 4611686018427387904) (d : Nat) : ∀ (k i : Nat), i + d = a.length → d < k → laws_eqExtS.l0 k a a i = some true := by
 induction d with
 | zero =>
  intro k i hi hk
  obtain ⟨k, rfl⟩ : ∃ m, k = m + 1 := ⟨k - 1, (by omega)⟩
  simp only [laws_eqExtS.l0]; rw [if_neg (by omega)]
 | succ d ih =>
  intro k i hi hk
  obtain ⟨k, rfl⟩ : ∃ m, k = m + 1 := ⟨k - 1, (by omega)⟩
  simp only [laws_eqExtS.l0]
  rw [if_pos (by omega), if_pos (by omega), if_pos (by omega), eqExt_eq]
  simp only [Option.bind_some, decide_true, if_true]
  rw [w64 (by omega) (by omega), show (i : Int) + 1 = ((i + 1 : Nat) : Int) by omega]
  exact ih k (i + 1) (by omega) (by omega)
theorem eqExtS_refl {a : List E} (hl : a.length ≤ 4611686018427387904) {k : Nat} (hk : a.length < k) : laws_eqExtS.f k a a = some true := by
 unfold laws_eqExtS.f; rw [if_pos rfl]; exact eqExtS_l0 a hl a.length k 0 (by omega) hk

/-! marks: a list's cells are numbered from k on -/
def marked : Nat → Int → List E
 | 0, _ => []
 | n + 1, k => ⟨k, k + 1⟩ :: marked n (k + 2)
/-! powers of two -/
end Go.Proofs.Ytcfdefkpheeibaa.PT
end
section
/- Steps that several laws share: same answers compared, lists turned in place. -/
namespace Go.Proofs.Ytcfdefkpheeibaa.PT
open Go.RowKit Go.Proofs.YtcfdefkpheeibaaW.PrintWords Go.Proofs.YtcfdefkpheeibaaW.PrintLast Go.Proofs.YtcfdefkpheeibaaW.PrintMore
set_option linter.unusedVariables false
set_option linter.unusedSimpArgs false
/-- A step with its answer known, as a rewriting (no unfolding in the kernel). -/
theorem bS {α β : Type} (a : α) (f : α → Option β) : (some a).bind f = f a := Eq.trans (Eq.refl _) (Option.bind_some a f)
theorem eqExt_refl (a b : Int) : laws_eqExt.f a b a b = some true := by
 have h := eqExt_eq ⟨a, b⟩ ⟨a, b⟩
 simpa using h
end Go.Proofs.Ytcfdefkpheeibaa.PT
end
section
/- The equality weight, at a point and as a table: both sides walk the same numbers. -/
namespace Go.Proofs.Ytcfdefkpheeibaa.PT
open Go.RowKit Go.Proofs.YtcfdefkpheeibaaW.PrintWords Go.Proofs.YtcfdefkpheeibaaW.PrintLast Go.Proofs.YtcfdefkpheeibaaW.PrintMore
set_option linter.unusedVariables false
set_option linter.unusedSimpArgs false
/-! the table -/
end Go.Proofs.Ytcfdefkpheeibaa.PT
end
section
/- Tables turned in place, folded, and read at a point: both sides walk the same numbers. -/
namespace Go.Proofs.Ytcfdefkpheeibaa.PT
open Go.RowKit Go.Proofs.YtcfdefkpheeibaaW.PrintWords Go.Proofs.YtcfdefkpheeibaaW.PrintLast Go.Proofs.YtcfdefkpheeibaaW.PrintMore
set_option linter.unusedVariables false
set_option linter.unusedSimpArgs false
/-! a table turned in place -/
/-! a table folded -/
/-! a table at a point -/
end Go.Proofs.Ytcfdefkpheeibaa.PT
end
section
/- Powers, inverses and the line: what the printed functions of chapter 2 come to. -/
namespace Go.Proofs.Ytcfdefkpheeibaa.PT
open Go.RowKit Go.Proofs.YtcfdefkpheeibaaW.PrintWords Go.Proofs.YtcfdefkpheeibaaW.PrintLast Go.Proofs.YtcfdefkpheeibaaW.PrintMore
set_option linter.unusedVariables false
set_option linter.unusedSimpArgs false
end Go.Proofs.Ytcfdefkpheeibaa.PT
end
section
/- Tables of tables: the laws' helpers over them, and the sum over all points. -/
namespace Go.Proofs.Ytcfdefkpheeibaa.PT
open Go.RowKit Go.Proofs.YtcfdefkpheeibaaW.PrintWords Go.Proofs.YtcfdefkpheeibaaW.PrintLast Go.Proofs.YtcfdefkpheeibaaW.PrintMore
set_option linter.unusedVariables false
set_option linter.unusedSimpArgs false
theorem rdLL_at {L : List (List LE)} {i : Nat} (h : i < L.length) : rd_L2 L (i : Int) = L[i] := by
 show L.getD (i : Int).toNat [] = L[i]
 rw [Int.toNat_natCast, getD_at h]
theorem rdEE_at {L : List (List E)} {i : Nat} (h : i < L.length) : rd_L4 L (i : Int) = L[i] := by
 show L.getD (i : Int).toNat [] = L[i]
 rw [Int.toNat_natCast, getD_at h]
def convLL (L : List (List LE)) : List (List E) := L.map convL
theorem convLL_length (L : List (List LE)) : (convLL L).length = L.length := by simp [convLL]
theorem convLL_get (L : List (List LE)) (i : Nat) (h : i < (convLL L).length) : (convLL L)[i] = convL (L[i]'(by rw [convLL_length] at h; exact h)) := by simp [convLL]
theorem toSS_l0 (L : List (List LE)) (hL : L.length ≤ 1048576) (hx : ∀ x ∈ L, x.length ≤ 1048576) (d : Nat) : ∀ (k i : Nat), i + d = L.length → d + 1048576 < k →
  laws_toExtSS.l0 k L ((convLL L).take i ++ List.replicate d []) i = some (convLL L) := by
 induction d with
 | zero =>
  intro k i hi hk
  obtain ⟨k, rfl⟩ : ∃ m, k = m + 1 := ⟨k - 1, (by omega)⟩
  simp only [laws_toExtSS.l0]
  rw [if_neg (by omega), List.take_of_length_le (by rw [convLL_length]; omega)]; simp
 | succ d ih =>
  intro k i hi hk
  obtain ⟨k, rfl⟩ : ∃ m, k = m + 1 := ⟨k - 1, (by omega)⟩
  have hlt : i < L.length := by omega
  have hlt2 : i < (convLL L).length := by rw [convLL_length]; exact hlt
  have hxi := hx _ (List.getElem_mem hlt)
  have hlen : ((convLL L).take i).length = i := by rw [List.length_take]; omega
  simp only [laws_toExtSS.l0]
  rw [if_pos (show (i : Int) < (L.length : Int) by omega), if_pos (show 0 ≤ (i : Int) by omega), rdLL_at hlt, toExtS_eq hxi (by omega)]
  simp only [bS]
  rw [if_pos (by rw [List.length_append, hlen, List.length_replicate]; omega), Int.toNat_natCast, List.replicate_succ]
  have hs := set_mid ((convLL L).take i) (List.replicate d []) [] (convL L[i])
  rw [hlen] at hs
  rw [hs, w64 (by omega) (by omega), show (i : Int) + 1 = ((i + 1 : Nat) : Int) by omega]
  have := ih k (i + 1) (by omega) (by omega)
  rw [List.take_succ_eq_append_getElem hlt2, convLL_get, List.append_assoc] at this
  exact this
theorem toSS_eq {L : List (List LE)} (hL : L.length ≤ 1048576) (hx : ∀ x ∈ L, x.length ≤ 1048576) {k : Nat} (hk : 3000000 < k) : laws_toExtSS.f k L = some (convLL L) := by
 unfold laws_toExtSS.f
 rw [if_pos (by omega), if_pos (by omega)]
 have := toSS_l0 L hL hx L.length k 0 (by omega) (by omega)
 rw [List.take_zero, List.nil_append, Int.natCast_zero] at this
 rw [Int.toNat_natCast]
 exact this
theorem eqSS_l0 (L : List (List E)) (hL : L.length ≤ 1048576) (hx : ∀ x ∈ L, x.length ≤ 1048576) (d : Nat) : ∀ (k i : Nat), i + d = L.length → d + 1048576 < k → laws_eqExtSS.l0 k L L i = some true := by
 induction d with
 | zero =>
  intro k i hi hk
  obtain ⟨k, rfl⟩ : ∃ m, k = m + 1 := ⟨k - 1, (by omega)⟩
  simp only [laws_eqExtSS.l0]
  rw [if_neg (by omega)]
 | succ d ih =>
  intro k i hi hk
  obtain ⟨k, rfl⟩ : ∃ m, k = m + 1 := ⟨k - 1, (by omega)⟩
  have hlt : i < L.length := by omega
  have hxi := hx _ (List.getElem_mem hlt)
  simp only [laws_eqExtSS.l0]
  rw [if_pos (show (i : Int) < (L.length : Int) by omega), if_pos (show 0 ≤ (i : Int) by omega), if_pos (show (i : Int) < (L.length : Int) by omega), rdEE_at hlt, eqExtS_refl (by omega) (by omega)]
  simp only [bS, if_true]
  rw [w64 (by omega) (by omega), show (i : Int) + 1 = ((i + 1 : Nat) : Int) by omega]
  exact ih k (i + 1) (by omega) (by omega)
theorem eqSS_refl {L : List (List E)} (hL : L.length ≤ 1048576) (hx : ∀ x ∈ L, x.length ≤ 1048576) {k : Nat} (hk : 3000000 < k) : laws_eqExtSS.f k L L = some true := by
 unfold laws_eqExtSS.f
 rw [if_pos rfl]
 exact eqSS_l0 L hL hx L.length k 0 (by omega) (by omega)
theorem convLL_short {L : List (List LE)} (hx : ∀ x ∈ L, x.length ≤ 1048576) : ∀ x ∈ convLL L, x.length ≤ 1048576 := by
 intro x h
 obtain ⟨y, hy, rfl⟩ := List.mem_map.mp h
 rw [convL_length]; exact hx y hy
/-! the code of tables -/
/-! the sum -/
end Go.Proofs.Ytcfdefkpheeibaa.PT
end
section
/- Openings: the laws' helpers over them, and the question whether one is right, alike on both sides. -/
namespace Go.Proofs.Ytcfdefkpheeibaa.PT
open Go.RowKit Go.Proofs.YtcfdefkpheeibaaW.PrintWords Go.Proofs.YtcfdefkpheeibaaW.PrintLast Go.Proofs.YtcfdefkpheeibaaW.PrintMore
set_option linter.unusedVariables false
set_option linter.unusedSimpArgs false
/-! loops of three shapes, over any elements -/
theorem sz_loop {α : Type} (x : List α) (F : Nat → α → Int → Option Int) (l0 : Nat → Int → Nat → Option Int) (small : α → Prop) (K : Nat)
  (hend : ∀ k a, l0 (k + 1) a x.length = some a)
  (hl0 : ∀ k a i (h : i < x.length), l0 (k + 1) a i = (F k x[i] a).bind fun t => if t < 0 then some (-1) else l0 k t (i + 1))
  (hF : ∀ p ∈ x, ∀ a : Int, 0 ≤ a → a ≤ 1048576 → ∃ r : Int, r ≤ 1048576 ∧ (∀ k, K < k → F k p a = some r) ∧ (r < 0 ∨ small p)) (d : Nat) :
  ∀ (i : Nat) (a : Int), i + d = x.length → 0 ≤ a → a ≤ 1048576 → ∃ r : Int, r ≤ 1048576 ∧ (∀ k, d + K < k → l0 k a i = some r) ∧ (r < 0 ∨ ∀ p ∈ x.drop i, small p) := by
 induction d with
 | zero =>
  intro i a hi h0 h1
  refine ⟨a, h1, fun k hk => ?_, Or.inr (by rw [List.drop_eq_nil_of_le (by omega)]; intro p hp; cases hp)⟩
  obtain ⟨k, rfl⟩ : ∃ m, k = m + 1 := ⟨k - 1, (by omega)⟩
  obtain rfl : i = x.length := by omega
  exact hend k a
 | succ d ih =>
  intro i a hi h0 h1
  have hlt : i < x.length := by omega
  obtain ⟨r1, hr1, e1, f1⟩ := hF _ (List.getElem_mem hlt) a h0 h1
  by_cases hn : r1 < 0
  ·
   refine ⟨-1, (by omega), fun k hk => ?_, Or.inl (by omega)⟩
   obtain ⟨k, rfl⟩ : ∃ m, k = m + 1 := ⟨k - 1, (by omega)⟩
   rw [hl0 k a i hlt, e1 k (by omega)]
   simp only [bS]
   rw [if_pos hn]
  ·
   obtain ⟨r, hr, e, f⟩ := ih (i + 1) r1 (by omega) (by omega) hr1
   refine ⟨r, hr, fun k hk => ?_, ?_⟩
   ·
    obtain ⟨k, rfl⟩ : ∃ m, k = m + 1 := ⟨k - 1, (by omega)⟩
    rw [hl0 k a i hlt, e1 k (by omega)]
    simp only [bS]
    rw [if_neg hn]
    exact e k (by omega)
   ·
    rcases f with f | f
    ·
     exact Or.inl f
    ·
     refine Or.inr fun p hp => ?_
     rw [List.drop_eq_getElem_cons hlt] at hp
     rcases List.mem_cons.mp hp with rfl | hp
     ·
      exact f1.resolve_left hn
     ·
      exact f p hp
theorem to_loop {α β : Type} (x : List α) (g : α → β) (z : β) (F : Nat → α → Option β) (l0 : Nat → List β → Nat → Option (List β)) (K : Nat)
  (hend : ∀ k acc, l0 (k + 1) acc x.length = some acc)
  (hl0 : ∀ k acc i (h : i < x.length), l0 (k + 1) acc i = (F k x[i]).bind fun t => if i < acc.length then l0 k (acc.set i t) (i + 1) else none)
  (hF : ∀ p ∈ x, ∀ k, K < k → F k p = some (g p)) (d : Nat) :
  ∀ (k i : Nat), i + d = x.length → d + K < k → l0 k ((x.map g).take i ++ List.replicate d z) i = some (x.map g) := by
 induction d with
 | zero =>
  intro k i hi hk
  obtain ⟨k, rfl⟩ : ∃ m, k = m + 1 := ⟨k - 1, (by omega)⟩
  obtain rfl : i = x.length := by omega
  rw [hend k, List.take_of_length_le (by rw [List.length_map]; exact Nat.le_refl _)]; simp
 | succ d ih =>
  intro k i hi hk
  obtain ⟨k, rfl⟩ : ∃ m, k = m + 1 := ⟨k - 1, (by omega)⟩
  have hlt : i < x.length := by omega
  have hlt2 : i < (x.map g).length := by rw [List.length_map]; exact hlt
  have hlen : ((x.map g).take i).length = i := by rw [List.length_take]; omega
  rw [hl0 k _ i hlt, hF _ (List.getElem_mem hlt) k (by omega)]
  simp only [bS]
  rw [if_pos (by rw [List.length_append, hlen, List.length_replicate]; omega), List.replicate_succ]
  have hs := set_mid ((x.map g).take i) (List.replicate d z) z (g x[i])
  rw [hlen] at hs
  rw [hs]
  have := ih k (i + 1) (by omega) (by omega)
  rw [List.take_succ_eq_append_getElem hlt2, List.getElem_map, List.append_assoc] at this
  exact this
theorem eq_loop {α : Type} (x : List α) (F : Nat → α → α → Option Bool) (l0 : Nat → Nat → Option Bool) (K : Nat)
  (hend : ∀ k, l0 (k + 1) x.length = some true)
  (hl0 : ∀ k i (h : i < x.length), l0 (k + 1) i = (F k x[i] x[i]).bind fun t => if t = true then l0 k (i + 1) else some false)
  (hF : ∀ p ∈ x, ∀ k, K < k → F k p p = some true) (d : Nat) :
  ∀ (k i : Nat), i + d = x.length → d + K < k → l0 k i = some true := by
 induction d with
 | zero =>
  intro k i hi hk
  obtain ⟨k, rfl⟩ : ∃ m, k = m + 1 := ⟨k - 1, (by omega)⟩
  obtain rfl : i = x.length := by omega
  exact hend k
 | succ d ih =>
  intro k i hi hk
  obtain ⟨k, rfl⟩ : ∃ m, k = m + 1 := ⟨k - 1, (by omega)⟩
  have hlt : i < x.length := by omega
  rw [hl0 k i hlt, hF _ (List.getElem_mem hlt) k (by omega)]
  simp only [bS, if_true]
  exact ih k (i + 1) (by omega) (by omega)
abbrev B := ByteArray
abbrev QL := S86
abbrev QI := S67
theorem rdB_at {x : List B} {i : Nat} (h : i < x.length) : rdOf ByteArray.empty x (i : Int) = x[i] := by
 show x.getD (i : Int).toNat _ = x[i]
 rw [Int.toNat_natCast, getD_at h]
theorem rdBB_at {x : List (List B)} {i : Nat} (h : i < x.length) : rd_L6 x (i : Int) = x[i] := by
 show x.getD (i : Int).toNat _ = x[i]
 rw [Int.toNat_natCast, getD_at h]
theorem rdQL_at {x : List QL} {i : Nat} (h : i < x.length) : rd_T86 x (i : Int) = x[i] := by
 show x.getD (i : Int).toNat _ = x[i]
 rw [Int.toNat_natCast, getD_at h]
theorem rdQI_at {x : List QI} {i : Nat} (h : i < x.length) : rd_T67 x (i : Int) = x[i] := by
 show x.getD (i : Int).toNat _ = x[i]
 rw [Int.toNat_natCast, getD_at h]
theorem nx {i : Nat} (h : (i : Int) + 1 ≤ 9223372036854775807) : wrap64 ((i : Int) + 1) = ((i + 1 : Nat) : Int) := by rw [w64 (by omega) h]; omega
/-! sizes -/
theorem szExtSS_eq {L : List (List LE)} (hg : ∀ x ∈ L, x.length ≤ 9223372036854775807) (hL : L.length ≤ 9223372036854775807) {a : Int} (h0 : 0 ≤ a) (h1 : a ≤ 1048576) :
  ∃ r : Int, r ≤ 1048576 ∧ (∀ k, 1048577 < k → laws_szExtSS.f k L a = some r) ∧ (r < 0 ∨ (L.length ≤ 1048576 ∧ ∀ x ∈ L, x.length ≤ 1048576)) := by
 by_cases hb : a < L.length
 ·
  refine ⟨-1, (by omega), fun k hk => ?_, Or.inl (by omega)⟩
  unfold laws_szExtSS.f
  rw [w64 (by omega) (by omega), if_pos (by omega)]
 ·
  obtain ⟨r, hr, e, f⟩ := sz_loop L (fun _ x a => laws_szExtS.f x a) (fun k a i => laws_szExtSS.l0 k L a i) (fun x => x.length ≤ 1048576) 0
   (fun k a => by simp only [laws_szExtSS.l0]; rw [if_neg (by omega)])
   (fun k a i h => by simp only [laws_szExtSS.l0]; rw [if_pos (show (i : Int) < (L.length : Int) by omega), if_pos (show 0 ≤ (i : Int) by omega), rdLL_at h, nx (by omega)])
   (fun p hp a h0 h1 => by
    by_cases h : a < (p.length : Int)
    ·
     exact ⟨-1, (by omega), fun _ _ => szExtS_big h0 h1 (hg p hp) h, Or.inl (by omega)⟩
    ·
     exact ⟨a - p.length, (by omega), fun _ _ => szExtS_fit h1 (by omega), Or.inr (by omega)⟩) L.length 0 (a - L.length) (by omega) (by omega) (by omega)
  refine ⟨r, hr, fun k hk => ?_, ?_⟩
  ·
   unfold laws_szExtSS.f
   rw [w64 (by omega) (by omega), if_neg (by omega)]
   exact e k (by omega)
  ·
   rcases f with f | f
   ·
    exact Or.inl f
   ·
    exact Or.inr ⟨(by omega), fun x hx => f x (by rw [List.drop_zero]; exact hx)⟩
theorem szStringS_eq {x : List B} (hg : ∀ s ∈ x, s.size ≤ 9223372036854775807) (hx : x.length ≤ 9223372036854775807) {a : Int} (h0 : 0 ≤ a) (h1 : a ≤ 1048576) :
  ∃ r : Int, r ≤ 1048576 ∧ (∀ k, 1048577 < k → laws_szStringS.f k x a = some r) ∧ (r < 0 ∨ x.length ≤ 1048576) := by
 by_cases hb : a < x.length
 ·
  refine ⟨-1, (by omega), fun k hk => ?_, Or.inl (by omega)⟩
  unfold laws_szStringS.f
  rw [w64 (by omega) (by omega), if_pos (by omega)]
 ·
  obtain ⟨r, hr, e, f⟩ := sz_loop x (fun _ s a => some (wrap64 (a - (s.size : Int)))) (fun k a i => laws_szStringS.l0 k x a i) (fun _ => True) 0
   (fun k a => by simp only [laws_szStringS.l0]; rw [if_neg (by omega)])
   (fun k a i h => by simp only [laws_szStringS.l0, bS]; rw [if_pos (show (i : Int) < (x.length : Int) by omega), if_pos (show 0 ≤ (i : Int) by omega), rdB_at h, nx (by omega)])
   (fun p hp a h0 h1 => ⟨wrap64 (a - (p.size : Int)), (by have := hg p hp; rw [w64 (by omega) (by omega)]; omega), fun _ _ => rfl, Or.inr trivial⟩) x.length 0 (a - x.length) (by omega) (by omega) (by omega)
  refine ⟨r, hr, fun k hk => ?_, Or.inr (by omega)⟩
  unfold laws_szStringS.f
  rw [w64 (by omega) (by omega), if_neg (by omega)]
  exact e k (by omega)
theorem szStringSS_eq {x : List (List B)} (hg : ∀ p ∈ x, p.length ≤ 9223372036854775807 ∧ ∀ s ∈ p, s.size ≤ 9223372036854775807) (hx : x.length ≤ 9223372036854775807) {a : Int} (h0 : 0 ≤ a) (h1 : a ≤ 1048576) :
  ∃ r : Int, r ≤ 1048576 ∧ (∀ k, 2097160 < k → laws_szStringSS.f k x a = some r) ∧ (r < 0 ∨ (x.length ≤ 1048576 ∧ ∀ p ∈ x, p.length ≤ 1048576)) := by
 by_cases hb : a < x.length
 ·
  refine ⟨-1, (by omega), fun k hk => ?_, Or.inl (by omega)⟩
  unfold laws_szStringSS.f
  rw [w64 (by omega) (by omega), if_pos (by omega)]
 ·
  obtain ⟨r, hr, e, f⟩ := sz_loop x (fun k p a => laws_szStringS.f k p a) (fun k a i => laws_szStringSS.l0 k x a i) (fun p => p.length ≤ 1048576) 1048577
   (fun k a => by simp only [laws_szStringSS.l0]; rw [if_neg (by omega)])
   (fun k a i h => by simp only [laws_szStringSS.l0]; rw [if_pos (show (i : Int) < (x.length : Int) by omega), if_pos (show 0 ≤ (i : Int) by omega), rdBB_at h, nx (by omega)])
   (fun p hp a h0 h1 => szStringS_eq (hg p hp).2 (hg p hp).1 h0 h1) x.length 0 (a - x.length) (by omega) (by omega) (by omega)
  refine ⟨r, hr, fun k hk => ?_, ?_⟩
  ·
   unfold laws_szStringSS.f
   rw [w64 (by omega) (by omega), if_neg (by omega)]
   exact e k (by omega)
  ·
   rcases f with f | f
   ·
    exact Or.inl f
   ·
    exact Or.inr ⟨(by omega), fun p hp => f p (by rw [List.drop_zero]; exact hp)⟩
def goodQ (q : QL) : Prop := q.f0.length ≤ 9223372036854775807 ∧ q.f1.length ≤ 9223372036854775807 ∧ ∀ p ∈ q.f1, p.length ≤ 9223372036854775807 ∧ ∀ s ∈ p, s.size ≤ 9223372036854775807
def smallQ (q : QL) : Prop := q.f0.length ≤ 1048576 ∧ q.f1.length ≤ 1048576 ∧ ∀ p ∈ q.f1, p.length ≤ 1048576
theorem szQuery_eq {q : QL} (hg : goodQ q) {a : Int} (h0 : 0 ≤ a) (h1 : a ≤ 1048576) :
  ∃ r : Int, r ≤ 1048576 ∧ (∀ k, 2097160 < k → laws_szQuery.f k q.f0 q.f1 a = some r) ∧ (r < 0 ∨ smallQ q) := by
 obtain ⟨g0, g1, g2⟩ := hg
 by_cases h : a < (q.f0.length : Int)
 ·
  refine ⟨-1, (by omega), fun k hk => ?_, Or.inl (by omega)⟩
  unfold laws_szQuery.f
  rw [szExtS_big h0 h1 g0 h]
  simp only [bS]
  rw [if_pos (by omega)]
 ·
  obtain ⟨r, hr, e, f⟩ := szStringSS_eq (x := q.f1) g2 g1 (a := a - q.f0.length) (by omega) (by omega)
  by_cases hn : r < 0
  ·
   refine ⟨-1, (by omega), fun k hk => ?_, Or.inl (by omega)⟩
   unfold laws_szQuery.f
   rw [szExtS_fit h1 (by omega)]
   simp only [bS]
   rw [if_neg (by omega), e k hk]
   simp only [bS]
   rw [if_pos hn]
  ·
   refine ⟨r, hr, fun k hk => ?_, Or.inr ⟨(by omega), f.resolve_left hn⟩⟩
   unfold laws_szQuery.f
   rw [szExtS_fit h1 (by omega)]
   simp only [bS]
   rw [if_neg (by omega), e k hk]
   simp only [bS]
   rw [if_neg hn]
theorem szQueryS_eq {x : List QL} (hg : ∀ q ∈ x, goodQ q) (hx : x.length ≤ 9223372036854775807) {a : Int} (h0 : 0 ≤ a) (h1 : a ≤ 1048576) :
  ∃ r : Int, r ≤ 1048576 ∧ (∀ k, 4000000 < k → laws_szQueryS.f k x a = some r) ∧ (r < 0 ∨ (x.length ≤ 1048576 ∧ ∀ q ∈ x, smallQ q)) := by
 by_cases hb : a < x.length
 ·
  refine ⟨-1, (by omega), fun k hk => ?_, Or.inl (by omega)⟩
  unfold laws_szQueryS.f
  rw [w64 (by omega) (by omega), if_pos (by omega)]
 ·
  obtain ⟨r, hr, e, f⟩ := sz_loop x (fun k q a => laws_szQuery.f k q.f0 q.f1 a) (fun k a i => laws_szQueryS.l0 k x a i) smallQ 2097160
   (fun k a => by simp only [laws_szQueryS.l0]; rw [if_neg (by omega)])
   (fun k a i h => by simp only [laws_szQueryS.l0]; rw [if_pos (show (i : Int) < (x.length : Int) by omega), if_pos (show 0 ≤ (i : Int) by omega), rdQL_at h, nx (by omega)])
   (fun q hq a h0 h1 => szQuery_eq (hg q hq) h0 h1) x.length 0 (a - x.length) (by omega) (by omega) (by omega)
  refine ⟨r, hr, fun k hk => ?_, ?_⟩
  ·
   unfold laws_szQueryS.f
   rw [w64 (by omega) (by omega), if_neg (by omega)]
   exact e k (by omega)
  ·
   rcases f with f | f
   ·
    exact Or.inl f
   ·
    exact Or.inr ⟨(by omega), fun q hq => f q (by rw [List.drop_zero]; exact hq)⟩
def goodO (R : List (List LE)) (T : List B) (Q : List QL) : Prop := (R.length ≤ 9223372036854775807 ∧ ∀ x ∈ R, x.length ≤ 9223372036854775807) ∧ (T.length ≤ 9223372036854775807 ∧ ∀ s ∈ T, s.size ≤ 9223372036854775807) ∧ Q.length ≤ 9223372036854775807 ∧ ∀ q ∈ Q, goodQ q
def smallO (R : List (List LE)) (T : List B) (Q : List QL) : Prop := (R.length ≤ 1048576 ∧ ∀ x ∈ R, x.length ≤ 1048576) ∧ T.length ≤ 1048576 ∧ Q.length ≤ 1048576 ∧ ∀ q ∈ Q, smallQ q
theorem szOpening_eq {R : List (List LE)} {T : List B} {Q : List QL} (hg : goodO R T Q) (x y z : Int) :
  ∃ r : Int, (∀ k, 4000000 < k → laws_szOpening.f k R T x y z Q 1048576 = some r) ∧ (r < 0 ∨ smallO R T Q) := by
 obtain ⟨⟨g0, g1⟩, ⟨g2, g3⟩, g4, g5⟩ := hg
 obtain ⟨r1, hr1, e1, f1⟩ := szExtSS_eq (L := R) g1 g0 (a := 1048576) (by omega) (by omega)
 by_cases h1 : r1 < 0
 ·
  refine ⟨-1, fun k hk => ?_, Or.inl (by omega)⟩
  unfold laws_szOpening.f
  rw [e1 k (by omega)]
  simp only [bS]
  rw [if_pos h1]
 ·
  obtain ⟨r2, hr2, e2, f2⟩ := szStringS_eq (x := T) g3 g2 (a := r1) (by omega) hr1
  by_cases h2 : r2 < 0
  ·
   refine ⟨-1, fun k hk => ?_, Or.inl (by omega)⟩
   unfold laws_szOpening.f
   rw [e1 k (by omega)]
   simp only [bS]
   rw [if_neg h1, e2 k (by omega)]
   simp only [bS]
   rw [if_pos h2]
  ·
   obtain ⟨r3, hr3, e3, f3⟩ := szQueryS_eq (x := Q) g5 g4 (a := r2) (by omega) hr2
   by_cases h3 : r3 < 0
   ·
    refine ⟨-1, fun k hk => ?_, Or.inl (by omega)⟩
    unfold laws_szOpening.f
    rw [e1 k (by omega)]
    simp only [bS]
    rw [if_neg h1, e2 k (by omega)]
    simp only [bS]
    rw [if_neg h2, e3 k (by omega)]
    simp only [bS]
    rw [if_pos h3]
   ·
    refine ⟨r3, fun k hk => ?_, Or.inr ⟨f1.resolve_left h1, f2.resolve_left h2, f3.resolve_left h3⟩⟩
    unfold laws_szOpening.f
    rw [e1 k (by omega)]
    simp only [bS]
    rw [if_neg h1, e2 k (by omega)]
    simp only [bS]
    rw [if_neg h2, e3 k (by omega)]
    simp only [bS]
    rw [if_neg h3]
/-! copies -/
theorem toStringS_eq {x : List B} (hx : x.length ≤ 1048576) {k : Nat} (hk : 1048577 < k) : laws_toStringS.f k x = some x := by
 unfold laws_toStringS.f
 rw [if_pos (by omega), if_pos (by omega), Int.toNat_natCast]
 have := to_loop x (fun s => s) (⟨#[]⟩ : ByteArray) (fun _ s => some s) (fun k acc i => laws_toStringS.l0 k x acc i) 0
  (fun k acc => by simp only [laws_toStringS.l0]; rw [if_neg (by omega)])
  (fun k acc i h => by simp only [laws_toStringS.l0, bS]; rw [if_pos (show (i : Int) < (x.length : Int) by omega), if_pos (show 0 ≤ (i : Int) by omega), rdB_at h, nx (by omega), Int.toNat_natCast]; by_cases hh : i < acc.length <;> simp only [hh, Int.ofNat_lt, if_true, if_false])
  (fun _ _ _ _ => rfl) x.length k 0 (by omega) (by omega)
 rw [List.take_zero, List.nil_append, List.map_id'] at this
 exact this
theorem toStringSS_eq {x : List (List B)} (hx : x.length ≤ 1048576) (hp : ∀ p ∈ x, p.length ≤ 1048576) {k : Nat} (hk : 2097160 < k) : laws_toStringSS.f k x = some x := by
 unfold laws_toStringSS.f
 rw [if_pos (by omega), if_pos (by omega), Int.toNat_natCast]
 have := to_loop x (fun s => s) ([] : List B) (fun k p => laws_toStringS.f k p) (fun k acc i => laws_toStringSS.l0 k x acc i) 1048577
  (fun k acc => by simp only [laws_toStringSS.l0]; rw [if_neg (by omega)])
  (fun k acc i h => by simp only [laws_toStringSS.l0]; rw [if_pos (show (i : Int) < (x.length : Int) by omega), if_pos (show 0 ≤ (i : Int) by omega), rdBB_at h, nx (by omega), Int.toNat_natCast]; by_cases hh : i < acc.length <;> simp only [hh, Int.ofNat_lt, if_true, if_false])
  (fun p hm k hk => toStringS_eq (hp p hm) hk) x.length k 0 (by omega) (by omega)
 rw [List.take_zero, List.nil_append, List.map_id'] at this
 exact this
def convQ (q : QL) : QI := ⟨convL q.f0, q.f1⟩
theorem toQuery_eq {q : QL} (h : smallQ q) {k : Nat} (hk : 2097160 < k) : laws_toQuery.f k q.f0 q.f1 = some ((convQ q).f0, (convQ q).f1) := by
 unfold laws_toQuery.f
 rw [toExtS_eq h.1 (by have := h.1; omega), toStringSS_eq h.2.1 h.2.2 hk]; rfl
theorem toQueryS_eq {x : List QL} (hx : x.length ≤ 1048576) (hq : ∀ q ∈ x, smallQ q) {k : Nat} (hk : 4000000 < k) : laws_toQueryS.f k x = some (x.map convQ) := by
 unfold laws_toQueryS.f
 rw [if_pos (by omega), if_pos (by omega), Int.toNat_natCast]
 have := to_loop x convQ z67 (fun k q => (laws_toQuery.f k q.f0 q.f1).bind fun bt => some (⟨bt.1, bt.2⟩ : QI)) (fun k acc i => laws_toQueryS.l0 k x acc i) 2097160
  (fun k acc => by simp only [laws_toQueryS.l0]; rw [if_neg (by omega)])
  (fun k acc i h => by
   simp only [laws_toQueryS.l0]
   rw [if_pos (show (i : Int) < (x.length : Int) by omega), if_pos (show 0 ≤ (i : Int) by omega), rdQL_at h, nx (by omega), Int.toNat_natCast]
   cases laws_toQuery.f k x[i].f0 x[i].f1 with
   | none => rfl
   | some bt => simp only [bS]; by_cases hh : i < acc.length <;> simp only [hh, Int.ofNat_lt, if_true, if_false])
  (fun q hm k hk => by rw [toQuery_eq (hq q hm) hk]; rfl) x.length k 0 (by omega) (by omega)
 rw [List.take_zero, List.nil_append] at this
 exact this
theorem toOpening_eq {R : List (List LE)} {T : List B} {Q : List QL} (h : smallO R T Q) (x y z : Int) {k : Nat} (hk : 4000000 < k) : laws_toOpening.f k R T x y z Q = some (convLL R, T, x, y, z, Q.map convQ) := by
 unfold laws_toOpening.f
 rw [toSS_eq h.1.1 h.1.2 (by omega), toStringS_eq h.2.1 (by omega), toQueryS_eq h.2.2.1 h.2.2.2 hk]; rfl
/-! one and the same -/
theorem eqStringS_refl {x : List B} (hx : x.length ≤ 1048576) {k : Nat} (hk : 1048577 < k) : laws_eqStringS.f k x x = some true := by
 unfold laws_eqStringS.f
 rw [if_pos rfl]
 exact eq_loop x (fun _ _ _ => some true) (fun k i => laws_eqStringS.l0 k x x i) 0
  (fun k => by simp only [laws_eqStringS.l0]; rw [if_neg (by omega)])
  (fun k i h => by simp only [laws_eqStringS.l0, bS]; rw [if_pos (show (i : Int) < (x.length : Int) by omega), if_pos (show 0 ≤ (i : Int) by omega), if_pos (show (i : Int) < (x.length : Int) by omega), if_true, if_true, nx (by omega)])
  (fun _ _ _ _ => rfl) x.length k 0 (by omega) (by omega)
theorem eqStringSS_refl {x : List (List B)} (hx : x.length ≤ 1048576) (hp : ∀ p ∈ x, p.length ≤ 1048576) {k : Nat} (hk : 2097160 < k) : laws_eqStringSS.f k x x = some true := by
 unfold laws_eqStringSS.f
 rw [if_pos rfl]
 exact eq_loop x (fun k p q => laws_eqStringS.f k p q) (fun k i => laws_eqStringSS.l0 k x x i) 1048577
  (fun k => by simp only [laws_eqStringSS.l0]; rw [if_neg (by omega)])
  (fun k i h => by simp only [laws_eqStringSS.l0]; rw [if_pos (show (i : Int) < (x.length : Int) by omega), if_pos (show 0 ≤ (i : Int) by omega), if_pos (show (i : Int) < (x.length : Int) by omega), rdBB_at h, nx (by omega)])
  (fun p hm k hk => eqStringS_refl (hp p hm) hk) x.length k 0 (by omega) (by omega)
def smallI (q : QI) : Prop := q.f0.length ≤ 1048576 ∧ q.f1.length ≤ 1048576 ∧ ∀ p ∈ q.f1, p.length ≤ 1048576
theorem eqQuery_refl {q : QI} (h : smallI q) {k : Nat} (hk : 2097160 < k) : laws_eqQuery.f k q.f0 q.f1 q.f0 q.f1 = some true := by
 have := h.1
 unfold laws_eqQuery.f
 rw [eqExtS_refl (by omega) (by omega), eqStringSS_refl h.2.1 h.2.2 hk]; rfl
theorem eqQueryS_refl {x : List QI} (hx : x.length ≤ 1048576) (hq : ∀ q ∈ x, smallI q) {k : Nat} (hk : 4000000 < k) : laws_eqQueryS.f k x x = some true := by
 unfold laws_eqQueryS.f
 rw [if_pos rfl]
 exact eq_loop x (fun k p q => laws_eqQuery.f k p.f0 p.f1 q.f0 q.f1) (fun k i => laws_eqQueryS.l0 k x x i) 2097160
  (fun k => by simp only [laws_eqQueryS.l0]; rw [if_neg (by omega)])
  (fun k i h => by simp only [laws_eqQueryS.l0]; rw [if_pos (show (i : Int) < (x.length : Int) by omega), if_pos (show 0 ≤ (i : Int) by omega), if_pos (show (i : Int) < (x.length : Int) by omega), rdQI_at h, nx (by omega)])
  (fun q hm k hk => eqQuery_refl (hq q hm) hk) x.length k 0 (by omega) (by omega)
theorem smallI_conv {Q : List QL} (h : ∀ q ∈ Q, smallQ q) : ∀ q ∈ Q.map convQ, smallI q := by
 intro q hq
 obtain ⟨y, hy, rfl⟩ := List.mem_map.mp hq
 exact ⟨(by show (convL y.f0).length ≤ _; rw [convL_length]; exact (h y hy).1), (h y hy).2.1, (h y hy).2.2⟩
theorem eqOpening_refl {R : List (List LE)} {T : List B} {Q : List QL} (h : smallO R T Q) (x y z : Int) {k : Nat} (hk : 4000000 < k) :
  laws_eqOpening.f k (convLL R) T x y z (Q.map convQ) (convLL R) T x y z (Q.map convQ) = some true := by
 unfold laws_eqOpening.f
 rw [eqSS_refl (by rw [convLL_length]; exact h.1.1) (convLL_short h.1.2) (by omega), eqStringS_refl h.2.1 (by omega), eqExt_refl, eqQueryS_refl (by rw [List.length_map]; exact h.2.2.1) (smallI_conv h.2.2.2) hk]
 simp only [bS, if_true]
end Go.Proofs.Ytcfdefkpheeibaa.PT
end
section
/- Whether an opening is right: both sides come to one and the same. -/
namespace Go.Proofs.Ytcfdefkpheeibaa.PT
open Go.RowKit Go.Proofs.YtcfdefkpheeibaaW.PrintWords Go.Proofs.YtcfdefkpheeibaaW.PrintLast Go.Proofs.YtcfdefkpheeibaaW.PrintMore
set_option linter.unusedVariables false
set_option linter.unusedSimpArgs false
def hB (s : B) : Bool := (s.size : Int) == 32
theorem hashes_eq (l : List B) : impl_are_string_isHash.f l = some (l.all hB) := rfl
def setB (a b c : Int) : Bool := decide (1 ≤ a ∧ a ≤ 3) && (decide (1 ≤ b ∧ b ≤ 8) && decide (0 ≤ c ∧ c ≤ 12))
theorem impl_set_eq (a b c : Int) : impl_SettingOK.f a b c = some (setB a b c) := by
 unfold impl_SettingOK.f setB
 rw [impl_in_eq, impl_in_eq, impl_in_eq]
 simp only [bS]
 cases decide (1 ≤ a ∧ a ≤ 3) <;> cases decide (1 ≤ b ∧ b ≤ 8) <;> rfl
theorem spec_set_eq (a b c : Int) : spec_SettingOK.f a b c = some (setB a b c) := by
 unfold spec_SettingOK.f setB
 rw [spec_l01In_eq, spec_l01In_eq, spec_l01In_eq]
 simp only [bS]
 cases decide (1 ≤ a ∧ a ≤ 3) <;> cases decide (1 ≤ b ∧ b ≤ 8) <;> rfl
def roundB (x : List E) : Bool := decide ((x.length : Int) = 3) && okLB x
theorem are_p (l : List E) : l.all impl_are_Ext_ExtOK.p = okLB l := Option.some.inj (impl_are_eq l)
theorem rounds_eq (L : List (List E)) (v : Int) : impl_areRounds.f L v 3 = some (decide ((L.length : Int) = v) && L.all roundB) := by
 unfold impl_areRounds.f
 congr 2
 apply congrArg (fun p => L.all p)
 funext x
 unfold impl_areRounds.p roundB
 rw [are_p]
def pathsB (n : Int) : List (List B) → Bool
 | [] => true
 | p :: ps => decide ((p.length : Int) = n) && (p.all hB && pathsB (n - 1) ps)
def queryB (v r : Int) (q : QI) : Bool := decide ((q.f0.length : Int) = 2 * v) && (okLB q.f0 && (decide ((q.f1.length : Int) = v) && pathsB (v + r - 1) q.f1))
theorem left_eq {v r : Int} (hv : 1 ≤ v ∧ v ≤ 6) (hr : 1 ≤ r ∧ r ≤ 3) {i : Nat} (hi : (i : Int) < v) : wrap64 (wrap64 (wrap64 (v + r) - 1) - (i : Int)) = v + r - 1 - i := by
 rw [w64 (n := v + r) (by omega) (by omega), w64 (n := v + r - 1) (by omega) (by omega), w64 (by omega) (by omega)]
theorem isQuery_l0 {v r : Int} (hv : 1 ≤ v ∧ v ≤ 6) (hr : 1 ≤ r ∧ r ≤ 3) (b c : Int) {P : List (List B)} (hP : (P.length : Int) = v) (d : Nat) : ∀ (k i : Nat), i + d = P.length → d < k →
  impl_isQuery.l0 k v P (P.length : Int) i r b c = some (pathsB (v + r - 1 - i) (P.drop i)) := by
 induction d with
 | zero =>
  intro k i hi hk
  obtain ⟨k, rfl⟩ : ∃ m, k = m + 1 := ⟨k - 1, (by omega)⟩
  simp only [impl_isQuery.l0]
  rw [if_neg (by omega), List.drop_eq_nil_of_le (by omega)]; rfl
 | succ d ih =>
  intro k i hi hk
  obtain ⟨k, rfl⟩ : ∃ m, k = m + 1 := ⟨k - 1, (by omega)⟩
  have hlt : i < P.length := by omega
  simp only [impl_isQuery.l0]
  rw [if_pos (show (i : Int) < (P.length : Int) by omega), if_pos (show 0 ≤ (i : Int) by omega), if_pos (show (i : Int) < (P.length : Int) by omega), rdBB_at hlt, left_eq hv hr (by omega), List.drop_eq_getElem_cons hlt, hashes_eq]
  simp only [bS, pathsB]
  by_cases h : ((P[i]).length : Int) = v + r - 1 - i
  ·
   rw [if_pos h, decide_eq_true h, nx (by omega), ih k (i + 1) (by omega) (by omega), show v + r - 1 - ((i + 1 : Nat) : Int) = v + r - 1 - (i : Int) - 1 by omega]
   cases (P[i]).all hB <;> rfl
  ·
   rw [if_neg h, decide_eq_false h]; rfl
theorem isQuery_eq {v r : Int} (hv : 1 ≤ v ∧ v ≤ 6) (hr : 1 ≤ r ∧ r ≤ 3) (b c : Int) (q : QI) {k : Nat} (hk : 10 < k) : impl_isQuery.f k q.f0 q.f1 v r b c = some (queryB v r q) := by
 obtain ⟨k, rfl⟩ : ∃ m, k = m + 1 := ⟨k - 1, (by omega)⟩
 unfold impl_isQuery.f queryB
 rw [w64 (by omega) (by omega), impl_are_eq]
 simp only [bS, impl_isQuery.j0, if_true]
 by_cases h0 : (q.f0.length : Int) = 2 * v
 ·
  rw [if_pos h0, decide_eq_true h0]
  cases okLB q.f0 with
  | false => rfl
  | true =>
   simp only [if_true, Bool.true_and]
   by_cases h1 : (q.f1.length : Int) = v
   ·
    rw [show ((q.f1.length : Int) != v) = false from bne_eq_false_iff_eq.mpr h1, decide_eq_true h1]
    have := isQuery_l0 hv hr b c h1 q.f1.length k 0 (by omega) (by omega)
    rw [List.drop_zero, Int.natCast_zero, Int.sub_zero] at this
    simp only [Bool.false_eq_true, if_false, Bool.true_and]
    exact this
   ·
    rw [show ((q.f1.length : Int) != v) = true from bne_iff_ne.mpr h1, decide_eq_false h1]; rfl
 ·
  rw [if_neg h0, decide_eq_false h0]; rfl
theorem queries_eq {v r : Int} (hv : 1 ≤ v ∧ v ≤ 6) (hr : 1 ≤ r ∧ r ≤ 3) (b c : Int) {k : Nat} (hk : 10 < k) : ∀ l : List QI, impl_are_Query.f k v r b c l = some (l.all (queryB v r))
 | [] => rfl
 | q :: qs => by
  unfold impl_are_Query.f
  rw [isQuery_eq hv hr b c q hk, queries_eq hv hr b c hk qs, List.all_cons]
  cases queryB v r q <;> rfl
/-- An opening is right. -/
def openB (R : List (List E)) (T : List B) (x y n : Int) (Q : List QI) (v r b c : Int) : Bool :=
 decide (1 ≤ v ∧ v ≤ 6) && (setB r b c && ((decide ((R.length : Int) = v) && R.all roundB) && (decide ((T.length : Int) = v - 1) && (T.all hB && (okB ⟨x, y⟩ && (decide (0 ≤ n ∧ n ≤ 65535) && (decide ((Q.length : Int) = b) && Q.all (queryB v r))))))))
theorem setB_r {r b c : Int} (h : setB r b c = true) : (1 ≤ r ∧ r ≤ 3) ∧ 1 ≤ b ∧ b ≤ 8 := by
 unfold setB at h
 simp only [Bool.and_eq_true, decide_eq_true_eq] at h
 exact ⟨h.1, h.2.1⟩
theorem impl_Opening_eq (R : List (List E)) (T : List B) (x y n : Int) (Q : List QI) (v r b c : Int) {k : Nat} (hk : 10 < k) : impl_OpeningOK.f k R T x y n Q v r b c = some (openB R T x y n Q v r b c) := by
 unfold impl_OpeningOK.f openB
 rw [impl_in_eq, impl_in_eq, impl_set_eq, rounds_eq, hashes_eq, impl_ExtOK_eq]
 simp only [bS]
 by_cases hv : 1 ≤ v ∧ v ≤ 6
 ·
  rw [decide_eq_true hv]
  cases hs : setB r b c with
  | false => rfl
  | true =>
   obtain ⟨hr, _⟩ := setB_r hs
   rw [queries_eq hv hr b c hk, w64 (by omega) (by omega)]
   simp only [if_true, Bool.true_and]
   cases (decide ((R.length : Int) = v) && R.all roundB) with
   | false => rfl
   | true =>
    simp only [if_true, Bool.true_and]
    by_cases h4 : (T.length : Int) = v - 1
    ·
     rw [if_pos h4, decide_eq_true h4]
     simp only [Bool.true_and]
     cases T.all hB with
     | false => rfl
     | true =>
      cases okB ⟨x, y⟩ with
      | false => rfl
      | true =>
       cases decide (0 ≤ n ∧ n ≤ 65535) with
       | false => rfl
       | true =>
        simp only [if_true, Bool.true_and]
        by_cases h8 : (Q.length : Int) = b
        ·
         rw [if_pos h8, decide_eq_true h8]; rfl
        ·
         rw [if_neg h8, decide_eq_false h8]; rfl
    ·
     rw [if_neg h4, decide_eq_false h4]; rfl
 ·
  rw [decide_eq_false hv]; rfl
/-! the other side -/
theorem spec_l3 (v r b c x y n : Int) (R : List (List E)) (T : List B) (Q : List QI) (F : List E) (P : List (List B)) (q8 : Int) {j : Nat} (hj : j < P.length) (hP : P.length ≤ 1048576) (hp : (P[j]).length ≤ 1048576) (Z : Bool) (K : Nat)
  (hZ : ∀ k, K < k → spec_OpeningOK.l2 k v q8 ((j + 1 : Nat) : Int) R T x y n Q r b c F P = some Z) (d : Nat) : ∀ (k i : Nat), i + d = (P[j]).length → K + d + 1 < k →
  spec_OpeningOK.l3 k v q8 j i R T x y n Q r b c F P = some (((P[j]).drop i).all hB && Z) := by
 induction d with
 | zero =>
  intro k i hi hk
  obtain ⟨k, rfl⟩ : ∃ m, k = m + 1 := ⟨k - 1, (by omega)⟩
  simp only [spec_OpeningOK.l3]
  rw [if_pos (show 0 ≤ (j : Int) by omega), if_pos (show (j : Int) < (P.length : Int) by omega), rdBB_at hj, if_neg (by omega), List.drop_eq_nil_of_le (by omega), nx (by omega), hZ k (by omega)]; rfl
 | succ d ih =>
  intro k i hi hk
  obtain ⟨k, rfl⟩ : ∃ m, k = m + 1 := ⟨k - 1, (by omega)⟩
  have hlt : i < (P[j]).length := by omega
  simp only [spec_OpeningOK.l3]
  rw [if_pos (show 0 ≤ (j : Int) by omega), if_pos (show (j : Int) < (P.length : Int) by omega), rdBB_at hj, if_pos (show (i : Int) < ((P[j]).length : Int) by omega), if_pos (show 0 ≤ (i : Int) by omega), rdB_at hlt, List.drop_eq_getElem_cons hlt, List.all_cons]
  by_cases h : (((P[j])[i]).size : Int) = 32
  ·
   rw [if_pos h, nx (by omega), ih k (i + 1) (by omega) (by omega), show hB (P[j])[i] = true from beq_iff_eq.mpr h]; rfl
  ·
   rw [if_neg h, show hB (P[j])[i] = false from beq_eq_false_iff_ne.mpr h]; rfl
theorem spec_l2 {v r : Int} (hv : 1 ≤ v ∧ v ≤ 6) (hr : 1 ≤ r ∧ r ≤ 3) (b c x y n : Int) (R : List (List E)) (T : List B) (Q : List QI) (F : List E) {P : List (List B)} (hP : (P.length : Int) = v) (q8 : Int) (Z : Bool) (K : Nat)
  (hZ : ∀ k, K < k → spec_OpeningOK.l1 k v (wrap64 (q8 + 1)) R T x y n Q r b c = some Z) (d : Nat) : ∀ (k j : Nat), j + d = P.length → K + d * 20 + 2 < k →
  spec_OpeningOK.l2 k v q8 j R T x y n Q r b c F P = some (pathsB (v + r - 1 - j) (P.drop j) && Z) := by
 induction d with
 | zero =>
  intro k j hj hk
  obtain ⟨k, rfl⟩ : ∃ m, k = m + 1 := ⟨k - 1, (by omega)⟩
  simp only [spec_OpeningOK.l2]
  rw [if_neg (by omega), List.drop_eq_nil_of_le (by omega), hZ k (by omega)]; rfl
 | succ d ih =>
  intro k j hj hk
  obtain ⟨k, rfl⟩ : ∃ m, k = m + 1 := ⟨k - 1, (by omega)⟩
  have hlt : j < P.length := by omega
  simp only [spec_OpeningOK.l2]
  rw [if_pos (show (j : Int) < v by omega), if_pos (show 0 ≤ (j : Int) by omega), if_pos (show (j : Int) < (P.length : Int) by omega), rdBB_at hlt, left_eq hv hr (by omega), List.drop_eq_getElem_cons hlt]
  simp only [pathsB]
  by_cases h : ((P[j]).length : Int) = v + r - 1 - j
  ·
   rw [if_pos h, decide_eq_true h]
   have := spec_l3 v r b c x y n R T Q F P q8 hlt (by omega) (by omega) (pathsB (v + r - 1 - ((j + 1 : Nat) : Int)) (P.drop (j + 1)) && Z) (K + d * 20 + 2) (fun k hk => ih k (j + 1) (by omega) (by omega)) (P[j]).length k 0 (by omega) (by omega)
   rw [Int.natCast_zero] at this
   rw [this, List.drop_zero, show v + r - 1 - ((j + 1 : Nat) : Int) = v + r - 1 - (j : Int) - 1 by omega, Bool.true_and, Bool.and_assoc]
  ·
   rw [if_neg h, decide_eq_false h]; rfl
theorem spec_l1 {v r : Int} (hv : 1 ≤ v ∧ v ≤ 6) (hr : 1 ≤ r ∧ r ≤ 3) (b c x y n : Int) (R : List (List E)) (T : List B) {Q : List QI} (hQ : Q.length ≤ 1048576) (d : Nat) : ∀ (k i : Nat), i + d = Q.length → d * 200 + 50 < k →
  spec_OpeningOK.l1 k v i R T x y n Q r b c = some ((Q.drop i).all (queryB v r)) := by
 induction d with
 | zero =>
  intro k i hi hk
  obtain ⟨k, rfl⟩ : ∃ m, k = m + 1 := ⟨k - 1, (by omega)⟩
  simp only [spec_OpeningOK.l1]
  rw [if_neg (by omega), List.drop_eq_nil_of_le (by omega)]; rfl
 | succ d ih =>
  intro k i hi hk
  obtain ⟨k, rfl⟩ : ∃ m, k = m + 1 := ⟨k - 1, (by omega)⟩
  obtain ⟨m, rfl⟩ : ∃ m, k = m + 1 := ⟨k - 1, (by omega)⟩
  have hlt : i < Q.length := by omega
  simp only [spec_OpeningOK.l1]
  rw [if_pos (show (i : Int) < (Q.length : Int) by omega), if_pos (show 0 ≤ (i : Int) by omega), rdQI_at hlt, w64 (n := 2 * v) (by omega) (by omega), List.drop_eq_getElem_cons hlt, List.all_cons]
  simp only [spec_OpeningOK.j3, if_true]
  unfold queryB
  by_cases h0 : ((Q[i]).f0.length : Int) = 2 * v
  ·
   rw [if_pos h0, decide_eq_true h0, spec_l02List_eq (by omega) (by omega)]
   simp only [bS]
   cases okLB (Q[i]).f0 with
   | false => rfl
   | true =>
    simp only [if_true, Bool.true_and]
    by_cases h1 : ((Q[i]).f1.length : Int) = v
    ·
     rw [show (((Q[i]).f1.length : Int) != v) = false from bne_eq_false_iff_eq.mpr h1, decide_eq_true h1]
     have := spec_l2 hv hr b c x y n R T Q (Q[i]).f0 h1 (i : Int) ((Q.drop (i + 1)).all (queryB v r)) (d * 200 + 50) (fun k hk => by rw [nx (by omega)]; exact ih k (i + 1) (by omega) hk) (Q[i]).f1.length m 0 (by omega) (by omega)
     rw [List.drop_zero, Int.natCast_zero, Int.sub_zero] at this
     simp only [Bool.false_eq_true, if_false, Bool.true_and]
     exact this
    ·
     rw [show (((Q[i]).f1.length : Int) != v) = true from bne_iff_ne.mpr h1, decide_eq_false h1]; rfl
  ·
   rw [if_neg h0, decide_eq_false h0]; rfl
theorem spec_l0 {v r : Int} (hv : 1 ≤ v ∧ v ≤ 6) (b c x y n : Int) {R : List (List E)} (hR : (R.length : Int) = v) {T : List B} (hT : (T.length : Int) = v - 1) (Q : List QI) (Z : Bool) (K : Nat)
  (hZ : ∀ k, K < k → spec_OpeningOK.l1 k v 0 R T x y n Q r b c = some Z) (d : Nat) : ∀ (k i : Nat), i + d = R.length → K + d + 20 < k →
  spec_OpeningOK.l0 k v i R T x y n Q r b c = some (((R.drop i).all roundB && (T.drop (i - 1)).all hB) && Z) := by
 induction d with
 | zero =>
  intro k i hi hk
  obtain ⟨k, rfl⟩ : ∃ m, k = m + 1 := ⟨k - 1, (by omega)⟩
  simp only [spec_OpeningOK.l0]
  rw [if_neg (by omega), List.drop_eq_nil_of_le (by omega), List.drop_eq_nil_of_le (by omega), hZ k (by omega)]; rfl
 | succ d ih =>
  intro k i hi hk
  obtain ⟨k, rfl⟩ : ∃ m, k = m + 1 := ⟨k - 1, (by omega)⟩
  have hlt : i < R.length := by omega
  simp only [spec_OpeningOK.l0]
  rw [if_pos (show (i : Int) < v by omega), if_pos (show 0 ≤ (i : Int) by omega), if_pos (show (i : Int) < (R.length : Int) by omega), rdEE_at hlt, List.drop_eq_getElem_cons (l := R) hlt, List.all_cons]
  by_cases h3 : ((R[i]).length : Int) = 3
  ·
   rw [if_pos h3, spec_l02List_eq (by omega) (by omega), show roundB R[i] = okLB R[i] by unfold roundB; rw [decide_eq_true h3, Bool.true_and], nx (by omega), ih k (i + 1) (by omega) (by omega)]
   simp only [bS]
   cases okLB R[i] with
   | false => rfl
   | true =>
    simp only [if_true, Bool.true_and]
    by_cases h0 : i = 0
    ·
     subst h0
     rw [if_neg (by omega)]
    ·
     have hlt2 : i - 1 < T.length := by omega
     have e1 : wrap64 ((i : Int) - 1) = ((i - 1 : Nat) : Int) := by rw [w64 (by omega) (by omega)]; omega
     rw [if_pos (show (i : Int) > 0 by omega), e1, if_pos (by omega), if_pos (by omega), rdB_at hlt2, List.drop_eq_getElem_cons (l := T) hlt2, List.all_cons, show i - 1 + 1 = i + 1 - 1 by omega]
     by_cases h : ((T[i - 1]).size : Int) = 32
     ·
      rw [if_pos h, show hB T[i - 1] = true from beq_iff_eq.mpr h, Bool.true_and]
     ·
      rw [if_neg h, show hB T[i - 1] = false from beq_eq_false_iff_ne.mpr h, Bool.false_and, Bool.and_false]; rfl
  ·
   rw [if_neg h3, show roundB R[i] = false by unfold roundB; rw [decide_eq_false h3, Bool.false_and]]; rfl
theorem spec_Opening_eq (R : List (List E)) (T : List B) (x y n : Int) (Q : List QI) (v r b c : Int) {k : Nat} (hk : 5000 < k) : spec_OpeningOK.f k R T x y n Q v r b c = some (openB R T x y n Q v r b c) := by
 obtain ⟨k, rfl⟩ : ∃ m, k = m + 1 := ⟨k - 1, (by omega)⟩
 unfold spec_OpeningOK.f openB
 rw [spec_l01In_eq, spec_l01In_eq, spec_set_eq, spec_ExtOK_eq]
 simp only [bS, spec_OpeningOK.j0, if_true]
 by_cases hv : 1 ≤ v ∧ v ≤ 6
 ·
  rw [decide_eq_true hv]
  cases hs : setB r b c with
  | false => rfl
  | true =>
   obtain ⟨hr, hb⟩ := setB_r hs
   rw [w64 (by omega) (by omega)]
   simp only [if_true, Bool.true_and]
   by_cases h1 : (R.length : Int) = v
   ·
    rw [if_pos h1, decide_eq_true h1]
    by_cases h4 : (T.length : Int) = v - 1
    ·
     rw [if_pos h4, decide_eq_true h4]
     by_cases h8 : (Q.length : Int) = b
     ·
      rw [if_pos h8, decide_eq_true h8]
      have := spec_l0 (r := r) hv b c x y n h1 h4 Q (Q.all (queryB v r)) (Q.length * 200 + 50) (fun k hk => by
       have := spec_l1 hv hr b c x y n R T (Q := Q) (by omega) Q.length k 0 (by omega) (by omega)
       rw [List.drop_zero, Int.natCast_zero] at this
       exact this) R.length k 0 (by omega) (by omega)
      rw [List.drop_zero, Int.natCast_zero] at this
      rw [this]
      simp only [List.drop_zero, Nat.zero_sub]
      cases okB ⟨x, y⟩ <;> cases decide (0 ≤ n ∧ n ≤ 65535) <;> cases R.all roundB <;> cases T.all hB <;> simp
     ·
      rw [if_neg h8, decide_eq_false h8]
      cases okB ⟨x, y⟩ <;> cases decide (0 ≤ n ∧ n ≤ 65535) <;> cases R.all roundB <;> cases T.all hB <;> rfl
    ·
     rw [if_neg h4, decide_eq_false h4]
     cases R.all roundB <;> rfl
   ·
    rw [if_neg h1, decide_eq_false h1]; rfl
 ·
  rw [decide_eq_false hv]; rfl
end Go.Proofs.Ytcfdefkpheeibaa.PT
end
section
/- Whether an opening is right is told alike on both sides, the opening untouched. -/
namespace Go.Proofs.Ytcfdefkpheeibaa.fnExactOpeningOK
open Go.Proofs.Ytcfdefkpheeibaa.PT Go.RowKit Go.Proofs.YtcfdefkpheeibaaO Go.Proofs.YtcfdefkpheeibaaW.PrintWords Go.Proofs.YtcfdefkpheeibaaW.PrintLast Go.Proofs.YtcfdefkpheeibaaW.PrintMore
set_option linter.unusedSimpArgs false
theorem pureFnExactOpeningOK : Pure := by
 intro o v t ho _ _
 have hg : goodO o.f0 o.f1 o.f4 := ⟨⟨ho.1.1, fun x hx => (ho.1.2 x hx).1⟩, ho.2.1, ho.2.2.2.2.1, fun q hq => ⟨(ho.2.2.2.2.2 q hq).1.1, (ho.2.2.2.2.2 q hq).2.1, fun p hp => (ho.2.2.2.2.2 q hq).2.2 p hp⟩⟩
 obtain ⟨r0, hr, hr2⟩ := szOpening_eq hg o.f2.f0 o.f2.f1 o.f3
 refine ⟨5000000, ?_⟩
 generalize hK : 5000000 = K
 unfold laws_FnExactOpeningOK.f
 rw [hr K (by omega)]
 simp only [bS]
 by_cases h0 : r0 < 0
 ·
  rw [if_pos h0]
 ·
  have hs := hr2.resolve_left h0
  rw [if_neg h0, toOpening_eq hs _ _ _ (k := K) (by omega)]
  simp only [bS, laws_toSetting.f]
  rw [spec_Opening_eq _ _ _ _ _ _ _ _ _ _ (k := K) (by omega), impl_Opening_eq _ _ _ _ _ _ _ _ _ _ (k := K) (by omega)]
  simp only [bS, bne_self_eq_false, Bool.false_eq_true, if_false]
  rw [eqOpening_refl hs _ _ _ (k := K) (by omega)]
  simp only [bS, if_true]
end Go.Proofs.Ytcfdefkpheeibaa.fnExactOpeningOK
end
