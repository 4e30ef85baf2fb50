/- Part 2 of the proof of FnExactWitnessOf: what functions compute, shown step by step, and what that says (the claim's last text states the law). -/
import Derived.Test.YtekijbcblajjbaaProg
import Derived.Test.YtekijbcblajjbaaVMore
import Derived.Test.YtekijbcblajjbaaVWords
import Derived.Test.YtekijbcblajjbaaVLast
import Derived.Test.YtekijbcblajjbaaVTab
import Derived.Test.YtekijbcblajjbaaVQPut
import Derived.Test.YtekijbcblajjbaaVApart
import Derived.Test.YtekijbcblajjbaaVArr
import Derived.Test.YtekijbcblajjbaaVZeros
import Derived.Test.YtekijbcblajjbaaVFoot
import Derived.Test.YtekijbcblajjbaaVKept
import Derived.Test.YtekijbcblajjbaaVShare
import Derived.Test.YtekijbcblajjbaaVN
import Derived.Test.YtekijbcblajjbaaVFootNe
import Derived.Test.YtekijbcblajjbaaVAt
import Derived.Test.YtekijbcblajjbaaVRepsOne
import Derived.Test.YtekijbcblajjbaaVGuard
import Derived.Test.YtekijbcblajjbaaVNEv
import Derived.Test.YtekijbcblajjbaaRows
import Derived.JoinedOf
import Derived.WalkKit
import Derived.ProofKit
import Derived.Below
import Derived.Deep.Draws
import Derived.Deep.AppendLies
import Derived.Maps.AppendAt
import Derived.OwnWalk
import Derived.Laws.BytesArg
import Derived.Laws.MakeOwn
import Derived.Laws.OwnMore
import Derived.Deep.OwnRows
import Derived.Tactics
import Derived.Lib.ConvBytes
import Derived.Laws.Slices
import Derived.KernelRfl
import Derived.RowKit3
import Derived.Deep.LoopGhost
import Derived.Deep.QuietTactic
import Derived.BigQuiet
import Derived.WideLaws
import Derived.Deep.DeepCutAuto
import Derived.Deep.CutBlock
import Derived.Deep.RegionHeld3
import Derived.Laws.Rows
import Derived.Lib.AppendStr
import Derived.ArgAppend
import Derived.Laws.IdiomCopy
import Derived.OrdersHeld
import Derived.Laws.BitsLemmas
import Derived.RowKit
import Derived.Lib.BufferMore
import Derived.Lib.SliceRun
import Derived.OpenShut
import Derived.ShutString
import Derived.ChangeOld
import Derived.SizedLaws
import Derived.Deep.Slices
import Derived.ChangeArms
import Derived.Test.YtekijbcblajjbaaZFnExactWitnessOf1
section
namespace Go.Proofs.Ytekijbcblajjbaa.PT
open Go.RowKit Go.Proofs.YtekijbcblajjbaaW.PrintWords Go.Proofs.YtekijbcblajjbaaW.PrintLast Go.Proofs.YtekijbcblajjbaaW.PrintMore
attribute [local go_sem] max2_int min2_int max_two min_two max_three min_three max_four min_four   -- for this text's walks alone
set_option linter.unusedVariables false
set_option linter.unusedSimpArgs false

/-! ### spec_l11Fits: function 71 -/
def spec_l11Fits.l0 : Nat → List Int → Int → List (S115) → Option (Bool)
 | 0, _, _, _ => none
 | k + 1, x1, x5, x102000 => if x5 < (x102000.length : Int) then (if 0 ≤ x5 then (if ((rd_T115 x102000 x5).f0) = 7 then (if 0 ≤ ((rd_T115 x102000 x5).f1) then (if ((rd_T115 x102000 x5).f1) < (x1.length : Int) then (if 0 ≤ ((rd_T115 x102000 x5).f2) then (if ((rd_T115 x102000 x5).f2) < (x1.length : Int) then (if (rd x1 ((rd_T115 x102000 x5).f1)) = (rd x1 ((rd_T115 x102000 x5).f2)) then (if ((rd_T115 x102000 x5).f0) = 8 then (if (rd x1 ((rd_T115 x102000 x5).f1)) > 1 then (some false) else (spec_l11Fits.l0 k x1 (wrap64 (x5 + 1)) x102000)) else (spec_l11Fits.l0 k x1 (wrap64 (x5 + 1)) x102000)) else (some false)) else (none)) else (none)) else (none)) else (none)) else (if ((rd_T115 x102000 x5).f0) = 8 then (if 0 ≤ ((rd_T115 x102000 x5).f1) then (if ((rd_T115 x102000 x5).f1) < (x1.length : Int) then (if (rd x1 ((rd_T115 x102000 x5).f1)) > 1 then (some false) else (spec_l11Fits.l0 k x1 (wrap64 (x5 + 1)) x102000)) else (none)) else (none)) else (spec_l11Fits.l0 k x1 (wrap64 (x5 + 1)) x102000))) else (none)) else (some true)
def spec_l11Fits.f (k : Nat) (l0_0 : List (S115)) (l1 : List Int) : Option (Bool) := spec_l11Fits.l0 k l1 0 l0_0
theorem spec_l11Fits.mono_l : ∀ k, (∀ y0 y1 y2, LeO (spec_l11Fits.l0 k y0 y1 y2) (spec_l11Fits.l0 (k + 1) y0 y1 y2))
 | 0 => fun _ _ _ r h => by simp [spec_l11Fits.l0] at h
 | k + 1 => by
  have ih0 := spec_l11Fits.mono_l k
  ·
   intro y0 y1 y2
   unfold spec_l11Fits.l0
   repeat' first
   | (with_reducible exact ih0 _ _ _)
   | (with_reducible exact LeO.refl _)
   | (with_reducible exact LeO.none _)
   | (with_reducible refine LeO.ite ?_ ?_)
   | (with_reducible refine LeO.bind ?_ (fun _ => ?_))
   | exact ih0 _ _ _
   | exact LeO.none _
   | refine LeO.ite ?_ ?_
   | refine LeO.bind ?_ (fun _ => ?_)
theorem spec_l11Fits.mono : ∀ a0 a1 k, LeO (spec_l11Fits.f k a0 a1) (spec_l11Fits.f (k + 1) a0 a1) := by
 intro a0 a1 k
 have ih0 := spec_l11Fits.mono_l k
 unfold spec_l11Fits.f
 repeat' first
   | (with_reducible exact ih0 _ _ _)
   | (with_reducible exact LeO.refl _)
   | (with_reducible exact LeO.none _)
   | (with_reducible refine LeO.ite ?_ ?_)
   | (with_reducible refine LeO.bind ?_ (fun _ => ?_))
   | exact ih0 _ _ _
   | exact LeO.none _
   | refine LeO.ite ?_ ?_
   | refine LeO.bind ?_ (fun _ => ?_)
set_option maxHeartbeats 8000000 in
set_option maxRecDepth 100000 in
theorem spec_l11Fits.calls (k : Nat) (A0_0 : Option Addr) (c0_0 : Nat) (l0_0 : List (S115)) (A1 : Option Addr) (c1 : Nat) (l1 : List Int) (r : Bool) (w : World) (hr0_0 : Kd.C k115 w A0_0 l0_0.length l0_0) (hc0_0 : l0_0.length ≤ c0_0) (hr1 : Kd.C (Kd.int .i64) w A1 l1.length l1) (hc1 : l1.length ≤ c1) (h : spec_l11Fits.f k l0_0 l1 = some r) :
  Calls Try.prog 71 #[.agg #[.slice A0_0 l0_0.length c0_0], .slice A1 l1.length c1] w fun e w' => e = .returned (.bool r) ∧ Below w.heap.size w w' := by
 have hu63 := Try.underlying63
 have hu115 := Try.underlying115
 have HR0_0 := am_ hr0_0
 have HC0_0 := am_ hc0_0
 clear hr0_0 hc0_0
 have HR1 := am_ hr1
 have HC1 := am_ hc1
 clear hr1 hc1
 have HB := am_ (Below.refl w.heap.size w)
 have H : (spec_l11Fits.l0 k l1 0 l0_0) = some r := h
 clear h
 have H' := am_ H
 clear H
 go_enter Try.func71, Try.ntmps71
 go_wp2_with (first | ((with_reducible refine gate_dst (N := 2) rfl ?_); refine box_event ?hg (N := 2) ?hd (cs := #[.slice A0_0 l0_0.length c0_0]) (t := 63) ?hr ?_; (case hd => rfl); (case hg => rfl); (case hr => first | (go_simp; done) | (go_simp; rfl)); intro gb101 hg w3 hbox hb; have n0_ := am_ (below_step qz1_ hb); have n1_ := am_ (hbox); have n2_ := am_ ((by rw [hg]; exact (below_size qz1_) : w.heap.size ≤ gb101)); have n3_ := am_ ((by rw [hg]; exact (below_size qz1_) : w.heap.size ≤ gb101)); clear HB; have HB := n0_; have BK101 := n1_; have GW101 := n2_; have GE101 := n3_; clear n0_ n1_ n2_ n3_; clear hb hbox hg))
 repeat (go_quiet (first | ((with_reducible refine gate_dst (N := 2) rfl ?_); refine box_event ?hg (N := 2) ?hd (cs := #[.slice A0_0 l0_0.length c0_0]) (t := 63) ?hr ?_; (case hd => rfl); (case hg => rfl); (case hr => first | (go_simp; done) | (go_simp; rfl)); intro gb101 hg w3 hbox hb; have n0_ := am_ (below_step qz1_ hb); have n1_ := am_ (hbox); have n2_ := am_ ((by rw [hg]; exact (below_size qz1_) : w.heap.size ≤ gb101)); have n3_ := am_ ((by rw [hg]; exact (below_size qz1_) : w.heap.size ≤ gb101)); clear HB; have HB := n0_; have BK101 := n1_; have GW101 := n2_; have GE101 := n3_; clear n0_ n1_ n2_ n3_; clear hb hbox hg)); try go_wp2_with (first | ((with_reducible refine gate_dst (N := 2) rfl ?_); refine box_event ?hg (N := 2) ?hd (cs := #[.slice A0_0 l0_0.length c0_0]) (t := 63) ?hr ?_; (case hd => rfl); (case hg => rfl); (case hr => first | (go_simp; done) | (go_simp; rfl)); intro gb101 hg w3 hbox hb; have n0_ := am_ (below_step qz1_ hb); have n1_ := am_ (hbox); have n2_ := am_ ((by rw [hg]; exact (below_size qz1_) : w.heap.size ≤ gb101)); have n3_ := am_ ((by rw [hg]; exact (below_size qz1_) : w.heap.size ≤ gb101)); clear HB; have HB := n0_; have BK101 := n1_; have GW101 := n2_; have GE101 := n3_; clear n0_ n1_ n2_ n3_; clear hb hbox hg)))
 go_loopg [5] k (fun kq v5 w' => ∃ (x5_1 : Int), v5 = .int .i64 x5_1 ∧ Aside0 (spec_l11Fits.l0 kq l1 x5_1 l0_0 = some r) ∧ Aside0 (kq ≤ k) ∧ Aside0 (w'.heap[gb101]? = some (.cells #[(.slice A0_0 l0_0.length c0_0)] 63 (0, 0))) ∧ Aside0 (Below w.heap.size w w'))
 case atStart => exact ⟨(0), qz2_, H', ⟨Nat.le_refl _⟩, ⟨qz11_⟩, ⟨qz10_⟩⟩
 case round =>
  clear H'
  try clear c1
  try clear p2
  obtain ⟨x5_1, rfl, HA, HK1, BK101, HB⟩ := hrel
  cases gk with
  | zero => exact absurd HA.out (by simp [spec_l11Fits.l0])
  | succ k1 =>
   have H := HA.out
   clear HA
   simp only [spec_l11Fits.l0] at H
   by_cases c4 : x5_1 < (l0_0.length : Int)
   ·
    rw [if_pos c4] at H
    have c4b0 : decide (x5_1 < (l0_0.length : Int)) = true := decide_eq_true c4
    clear c4
    by_cases c5 : 0 ≤ x5_1
    ·
     rw [if_pos c5] at H
     have c5b0 : decide (0 ≤ x5_1) = true := decide_eq_true c5
     clear c5
     by_cases c6 : ((rd_T115 l0_0 x5_1).f0) = 7
     ·
      rw [if_pos c6] at H
      have c6b0 : (((rd_T115 l0_0 x5_1).f0) == 7) = true := beq_iff_eq.mpr c6
      have c6b1 : (((rd_T115 l0_0 x5_1).f0) != 7) = false := bne_eq_false_iff_eq.mpr c6
      clear c6
      by_cases c7 : 0 ≤ ((rd_T115 l0_0 x5_1).f1)
      ·
       rw [if_pos c7] at H
       have c7b0 : decide (0 ≤ ((rd_T115 l0_0 x5_1).f1)) = true := decide_eq_true c7
       clear c7
       by_cases c8 : ((rd_T115 l0_0 x5_1).f1) < (l1.length : Int)
       ·
        rw [if_pos c8] at H
        have c8b0 : decide (((rd_T115 l0_0 x5_1).f1) < (l1.length : Int)) = true := decide_eq_true c8
        clear c8
        by_cases c9 : 0 ≤ ((rd_T115 l0_0 x5_1).f2)
        ·
         rw [if_pos c9] at H
         have c9b0 : decide (0 ≤ ((rd_T115 l0_0 x5_1).f2)) = true := decide_eq_true c9
         clear c9
         by_cases c10 : ((rd_T115 l0_0 x5_1).f2) < (l1.length : Int)
         ·
          rw [if_pos c10] at H
          have c10b0 : decide (((rd_T115 l0_0 x5_1).f2) < (l1.length : Int)) = true := decide_eq_true c10
          clear c10
          by_cases c11 : (rd l1 ((rd_T115 l0_0 x5_1).f1)) = (rd l1 ((rd_T115 l0_0 x5_1).f2))
          ·
           rw [if_pos c11] at H
           have c11b0 : ((rd l1 ((rd_T115 l0_0 x5_1).f1)) == (rd l1 ((rd_T115 l0_0 x5_1).f2))) = true := beq_iff_eq.mpr c11
           have c11b1 : ((rd l1 ((rd_T115 l0_0 x5_1).f1)) != (rd l1 ((rd_T115 l0_0 x5_1).f2))) = false := bne_eq_false_iff_eq.mpr c11
           clear c11
           by_cases c12 : ((rd_T115 l0_0 x5_1).f0) = 8
           ·
            rw [if_pos c12] at H
            have c12b0 : (((rd_T115 l0_0 x5_1).f0) == 8) = true := beq_iff_eq.mpr c12
            have c12b1 : (((rd_T115 l0_0 x5_1).f0) != 8) = false := bne_eq_false_iff_eq.mpr c12
            clear c12
            by_cases c13 : (rd l1 ((rd_T115 l0_0 x5_1).f1)) > 1
            ·
             rw [if_pos c13] at H
             have c13b0 : decide (1 < (rd l1 ((rd_T115 l0_0 x5_1).f1))) = true := decide_eq_true c13
             clear c13
             obtain rfl := Option.some.inj H
             have hcz14_0 : wr.cell? ⟨gb101, 0, none⟩ = some (.slice A0_0 l0_0.length c0_0) := (blk_cell BK101.out 0).trans rfl
             have hfz14_0 := blk_frozen BK101.out 0
             have p102 : 0 ≤ (x5_1 : Int) := of_decide_eq_true qz0_
             have q102 : x5_1 < (l0_0.length : Int) := of_decide_eq_true qz0_
             obtain ⟨ad102, e102, hx102_0, hx102_1, hx102_2, hx102_3⟩ := at_T115 HR0_0.out x5_1 p102 q102
             cases e102
             replace hx102_0 := (HB.out.cell (World.block_lt_of_cell? w _ hx102_0)).trans hx102_0
             replace hx102_1 := (HB.out.cell (World.block_lt_of_cell? w _ hx102_1)).trans hx102_1
             replace hx102_2 := (HB.out.cell (World.block_lt_of_cell? w _ hx102_2)).trans hx102_2
             replace hx102_3 := (HB.out.cell (World.block_lt_of_cell? w _ hx102_3)).trans hx102_3
             replace p102 := eq_true p102
             replace q102 := eq_true q102
             go_wp2_with (first | ((with_reducible refine gate_dst (N := 6) rfl ?_); refine box_event ?hg (N := 6) ?hd (cs := #[.int .i64 0, .int .i64 0, .int .i64 0, .int .i64 0]) (t := 115) ?hr ?_; (case hd => rfl); (case hg => rfl); (case hr => first | (go_simp; done) | (go_simp; rfl)); intro gb103 hg w15 hbox hb; have n0_ := am_ (blk_below (g := gb101) (o := .cells #[.slice (some ad102) l0_0.length c0_0] 63 (0, 0)) qz11_ hb); have n1_ := am_ (below_step qz10_ hb); have n2_ := am_ (hbox); have n3_ := am_ ((by rw [hg]; exact (below_size qz10_) : w.heap.size ≤ gb103)); have n4_ := am_ ((by rw [hg]; exact (below_size qz10_) : w.heap.size ≤ gb103)); have n5_ := am_ ((by rw [hg]; exact Nat.ne_of_lt (blk_lt (g := gb101) (o := .cells #[.slice (some ad102) l0_0.length c0_0] 63 (0, 0)) qz11_) : gb101 ≠ gb103)); have n6_ := am_ ((by rw [hg]; exact Nat.ne_of_gt (blk_lt (g := gb101) (o := .cells #[.slice (some ad102) l0_0.length c0_0] 63 (0, 0)) qz11_) : gb103 ≠ gb101)); clear BK101; clear HB; have BK101 := n0_; have HB := n1_; have BK103 := n2_; have GW103 := n3_; have GE103 := n4_; have NB101_103 := n5_; have NB103_101 := n6_; clear n0_ n1_ n2_ n3_ n4_ n5_ n6_; clear hb hbox hg; have hnb16 := NB103_101.out; have hnc16 := NB101_103.out; have hcz17_0 : w15.cell? ⟨gb103, 0, none⟩ = some (.int .i64 0) := (blk_cell BK103.out 0).trans rfl; have hcz17_1 : w15.cell? ⟨gb103, 1, none⟩ = some (.int .i64 0) := (blk_cell BK103.out 1).trans rfl; have hcz17_2 : w15.cell? ⟨gb103, 2, none⟩ = some (.int .i64 0) := (blk_cell BK103.out 2).trans rfl; have hcz17_3 : w15.cell? ⟨gb103, 3, none⟩ = some (.int .i64 0) := (blk_cell BK103.out 3).trans rfl; have hfz17_0 := blk_frozen BK103.out 0; have hfz17_1 := blk_frozen BK103.out 1; have hfz17_2 := blk_frozen BK103.out 2; have hfz17_3 := blk_frozen BK103.out 3; have p104 : 0 ≤ (((rd_T115 l0_0 x5_1).f1) : Int) := of_decide_eq_true qz0_; have q104 : ((rd_T115 l0_0 x5_1).f1) < (l1.length : Int) := of_decide_eq_true qz0_; obtain ⟨ad104, e104, hx104_0⟩ := Kd.at_int HR1.out ((rd_T115 l0_0 x5_1).f1) p104 q104; cases e104; have hn104_0 : ad104.block ≠ gb103 := Nat.ne_of_lt (Nat.lt_of_lt_of_le qz37_ GW103.out); have hn104_1 : ad104.block ≠ gb103 := Nat.ne_of_lt (Nat.lt_of_lt_of_le qz37_ GW103.out); have hn104_2 : ad104.block ≠ gb103 := Nat.ne_of_lt (Nat.lt_of_lt_of_le qz37_ GW103.out); have hn104_3 : ad104.block ≠ gb103 := Nat.ne_of_lt (Nat.lt_of_lt_of_le qz37_ GW103.out); replace hx104_0 := (HB.out.cell (World.block_lt_of_cell? w _ hx104_0)).trans hx104_0; replace hx104_0 := (cell_far (p := ⟨gb103, 0, none⟩) qz38_ (.int .i64 ((rd_T115 l0_0 x5_1).f0))).trans hx104_0; replace hx104_0 := (cell_far (p := ⟨gb103, 1, none⟩) qz39_ (.int .i64 ((rd_T115 l0_0 x5_1).f1))).trans hx104_0; replace hx104_0 := (cell_far (p := ⟨gb103, 2, none⟩) qz40_ (.int .i64 ((rd_T115 l0_0 x5_1).f2))).trans hx104_0; replace hx104_0 := (cell_far (p := ⟨gb103, 3, none⟩) qz41_ (.int .i64 ((rd_T115 l0_0 x5_1).f3))).trans hx104_0; (try have hy104_0 := fun (n_ : Nat) => (show ((((((w15.drewN n_).setCell ⟨gb103, 0, none⟩ (.int .i64 ((rd_T115 l0_0 x5_1).f0))).setCell ⟨gb103, 1, none⟩ (.int .i64 ((rd_T115 l0_0 x5_1).f1))).setCell ⟨gb103, 2, none⟩ (.int .i64 ((rd_T115 l0_0 x5_1).f2))).setCell ⟨gb103, 3, none⟩ (.int .i64 ((rd_T115 l0_0 x5_1).f3)))).cell? _ = some _ from hx104_0)); clear hn104_0; clear hn104_1; clear hn104_2; clear hn104_3; replace p104 := eq_true p104; replace q104 := eq_true q104; have p105 : 0 ≤ (((rd_T115 l0_0 x5_1).f2) : Int) := of_decide_eq_true qz0_; have q105 : ((rd_T115 l0_0 x5_1).f2) < (l1.length : Int) := of_decide_eq_true qz0_; obtain ⟨ad105, e105, hx105_0⟩ := Kd.at_int HR1.out ((rd_T115 l0_0 x5_1).f2) p105 q105; obtain rfl : ad104 = ad105 := (by injection e105); have hn105_0 : ad104.block ≠ gb103 := Nat.ne_of_lt (Nat.lt_of_lt_of_le qz42_ GW103.out); have hn105_1 : ad104.block ≠ gb103 := Nat.ne_of_lt (Nat.lt_of_lt_of_le qz42_ GW103.out); have hn105_2 : ad104.block ≠ gb103 := Nat.ne_of_lt (Nat.lt_of_lt_of_le qz42_ GW103.out); have hn105_3 : ad104.block ≠ gb103 := Nat.ne_of_lt (Nat.lt_of_lt_of_le qz42_ GW103.out); replace hx105_0 := (HB.out.cell (World.block_lt_of_cell? w _ hx105_0)).trans hx105_0; replace hx105_0 := (cell_far (p := ⟨gb103, 0, none⟩) qz43_ (.int .i64 ((rd_T115 l0_0 x5_1).f0))).trans hx105_0; replace hx105_0 := (cell_far (p := ⟨gb103, 1, none⟩) qz44_ (.int .i64 ((rd_T115 l0_0 x5_1).f1))).trans hx105_0; replace hx105_0 := (cell_far (p := ⟨gb103, 2, none⟩) qz45_ (.int .i64 ((rd_T115 l0_0 x5_1).f2))).trans hx105_0; replace hx105_0 := (cell_far (p := ⟨gb103, 3, none⟩) qz46_ (.int .i64 ((rd_T115 l0_0 x5_1).f3))).trans hx105_0; (try have hy105_0 := fun (n_ : Nat) => (show ((((((w15.drewN n_).setCell ⟨gb103, 0, none⟩ (.int .i64 ((rd_T115 l0_0 x5_1).f0))).setCell ⟨gb103, 1, none⟩ (.int .i64 ((rd_T115 l0_0 x5_1).f1))).setCell ⟨gb103, 2, none⟩ (.int .i64 ((rd_T115 l0_0 x5_1).f2))).setCell ⟨gb103, 3, none⟩ (.int .i64 ((rd_T115 l0_0 x5_1).f3)))).cell? _ = some _ from hx105_0)); clear hn105_0; clear hn105_1; clear hn105_2; clear hn105_3; replace p105 := eq_true p105; replace q105 := eq_true q105; have p106 : 0 ≤ (((rd_T115 l0_0 x5_1).f1) : Int) := of_decide_eq_true qz0_; have q106 : ((rd_T115 l0_0 x5_1).f1) < (l1.length : Int) := of_decide_eq_true qz0_; obtain ⟨ad106, e106, hx106_0⟩ := Kd.at_int HR1.out ((rd_T115 l0_0 x5_1).f1) p106 q106; obtain rfl : ad104 = ad106 := (by injection e106); have hn106_0 : ad104.block ≠ gb103 := Nat.ne_of_lt (Nat.lt_of_lt_of_le qz47_ GW103.out); have hn106_1 : ad104.block ≠ gb103 := Nat.ne_of_lt (Nat.lt_of_lt_of_le qz47_ GW103.out); have hn106_2 : ad104.block ≠ gb103 := Nat.ne_of_lt (Nat.lt_of_lt_of_le qz47_ GW103.out); have hn106_3 : ad104.block ≠ gb103 := Nat.ne_of_lt (Nat.lt_of_lt_of_le qz47_ GW103.out); replace hx106_0 := (HB.out.cell (World.block_lt_of_cell? w _ hx106_0)).trans hx106_0; replace hx106_0 := (cell_far (p := ⟨gb103, 0, none⟩) qz48_ (.int .i64 ((rd_T115 l0_0 x5_1).f0))).trans hx106_0; replace hx106_0 := (cell_far (p := ⟨gb103, 1, none⟩) qz49_ (.int .i64 ((rd_T115 l0_0 x5_1).f1))).trans hx106_0; replace hx106_0 := (cell_far (p := ⟨gb103, 2, none⟩) qz50_ (.int .i64 ((rd_T115 l0_0 x5_1).f2))).trans hx106_0; replace hx106_0 := (cell_far (p := ⟨gb103, 3, none⟩) qz51_ (.int .i64 ((rd_T115 l0_0 x5_1).f3))).trans hx106_0; (try have hy106_0 := fun (n_ : Nat) => (show ((((((w15.drewN n_).setCell ⟨gb103, 0, none⟩ (.int .i64 ((rd_T115 l0_0 x5_1).f0))).setCell ⟨gb103, 1, none⟩ (.int .i64 ((rd_T115 l0_0 x5_1).f1))).setCell ⟨gb103, 2, none⟩ (.int .i64 ((rd_T115 l0_0 x5_1).f2))).setCell ⟨gb103, 3, none⟩ (.int .i64 ((rd_T115 l0_0 x5_1).f3)))).cell? _ = some _ from hx106_0)); clear hn106_0; clear hn106_1; clear hn106_2; clear hn106_3; replace p106 := eq_true p106; replace q106 := eq_true q106))
             repeat (go_quiet (first | ((with_reducible refine gate_dst (N := 6) rfl ?_); refine box_event ?hg (N := 6) ?hd (cs := #[.int .i64 0, .int .i64 0, .int .i64 0, .int .i64 0]) (t := 115) ?hr ?_; (case hd => rfl); (case hg => rfl); (case hr => first | (go_simp; done) | (go_simp; rfl)); intro gb103 hg w15 hbox hb; have n0_ := am_ (blk_below (g := gb101) (o := .cells #[.slice (some ad102) l0_0.length c0_0] 63 (0, 0)) qz11_ hb); have n1_ := am_ (below_step qz10_ hb); have n2_ := am_ (hbox); have n3_ := am_ ((by rw [hg]; exact (below_size qz10_) : w.heap.size ≤ gb103)); have n4_ := am_ ((by rw [hg]; exact (below_size qz10_) : w.heap.size ≤ gb103)); have n5_ := am_ ((by rw [hg]; exact Nat.ne_of_lt (blk_lt (g := gb101) (o := .cells #[.slice (some ad102) l0_0.length c0_0] 63 (0, 0)) qz11_) : gb101 ≠ gb103)); have n6_ := am_ ((by rw [hg]; exact Nat.ne_of_gt (blk_lt (g := gb101) (o := .cells #[.slice (some ad102) l0_0.length c0_0] 63 (0, 0)) qz11_) : gb103 ≠ gb101)); clear BK101; clear HB; have BK101 := n0_; have HB := n1_; have BK103 := n2_; have GW103 := n3_; have GE103 := n4_; have NB101_103 := n5_; have NB103_101 := n6_; clear n0_ n1_ n2_ n3_ n4_ n5_ n6_; clear hb hbox hg; have hnb16 := NB103_101.out; have hnc16 := NB101_103.out; have hcz17_0 : w15.cell? ⟨gb103, 0, none⟩ = some (.int .i64 0) := (blk_cell BK103.out 0).trans rfl; have hcz17_1 : w15.cell? ⟨gb103, 1, none⟩ = some (.int .i64 0) := (blk_cell BK103.out 1).trans rfl; have hcz17_2 : w15.cell? ⟨gb103, 2, none⟩ = some (.int .i64 0) := (blk_cell BK103.out 2).trans rfl; have hcz17_3 : w15.cell? ⟨gb103, 3, none⟩ = some (.int .i64 0) := (blk_cell BK103.out 3).trans rfl; have hfz17_0 := blk_frozen BK103.out 0; have hfz17_1 := blk_frozen BK103.out 1; have hfz17_2 := blk_frozen BK103.out 2; have hfz17_3 := blk_frozen BK103.out 3; have p104 : 0 ≤ (((rd_T115 l0_0 x5_1).f1) : Int) := of_decide_eq_true qz0_; have q104 : ((rd_T115 l0_0 x5_1).f1) < (l1.length : Int) := of_decide_eq_true qz0_; obtain ⟨ad104, e104, hx104_0⟩ := Kd.at_int HR1.out ((rd_T115 l0_0 x5_1).f1) p104 q104; cases e104; have hn104_0 : ad104.block ≠ gb103 := Nat.ne_of_lt (Nat.lt_of_lt_of_le qz37_ GW103.out); have hn104_1 : ad104.block ≠ gb103 := Nat.ne_of_lt (Nat.lt_of_lt_of_le qz37_ GW103.out); have hn104_2 : ad104.block ≠ gb103 := Nat.ne_of_lt (Nat.lt_of_lt_of_le qz37_ GW103.out); have hn104_3 : ad104.block ≠ gb103 := Nat.ne_of_lt (Nat.lt_of_lt_of_le qz37_ GW103.out); replace hx104_0 := (HB.out.cell (World.block_lt_of_cell? w _ hx104_0)).trans hx104_0; replace hx104_0 := (cell_far (p := ⟨gb103, 0, none⟩) qz38_ (.int .i64 ((rd_T115 l0_0 x5_1).f0))).trans hx104_0; replace hx104_0 := (cell_far (p := ⟨gb103, 1, none⟩) qz39_ (.int .i64 ((rd_T115 l0_0 x5_1).f1))).trans hx104_0; replace hx104_0 := (cell_far (p := ⟨gb103, 2, none⟩) qz40_ (.int .i64 ((rd_T115 l0_0 x5_1).f2))).trans hx104_0; replace hx104_0 := (cell_far (p := ⟨gb103, 3, none⟩) qz41_ (.int .i64 ((rd_T115 l0_0 x5_1).f3))).trans hx104_0; (try have hy104_0 := fun (n_ : Nat) => (show ((((((w15.drewN n_).setCell ⟨gb103, 0, none⟩ (.int .i64 ((rd_T115 l0_0 x5_1).f0))).setCell ⟨gb103, 1, none⟩ (.int .i64 ((rd_T115 l0_0 x5_1).f1))).setCell ⟨gb103, 2, none⟩ (.int .i64 ((rd_T115 l0_0 x5_1).f2))).setCell ⟨gb103, 3, none⟩ (.int .i64 ((rd_T115 l0_0 x5_1).f3)))).cell? _ = some _ from hx104_0)); clear hn104_0; clear hn104_1; clear hn104_2; clear hn104_3; replace p104 := eq_true p104; replace q104 := eq_true q104; have p105 : 0 ≤ (((rd_T115 l0_0 x5_1).f2) : Int) := of_decide_eq_true qz0_; have q105 : ((rd_T115 l0_0 x5_1).f2) < (l1.length : Int) := of_decide_eq_true qz0_; obtain ⟨ad105, e105, hx105_0⟩ := Kd.at_int HR1.out ((rd_T115 l0_0 x5_1).f2) p105 q105; obtain rfl : ad104 = ad105 := (by injection e105); have hn105_0 : ad104.block ≠ gb103 := Nat.ne_of_lt (Nat.lt_of_lt_of_le qz42_ GW103.out); have hn105_1 : ad104.block ≠ gb103 := Nat.ne_of_lt (Nat.lt_of_lt_of_le qz42_ GW103.out); have hn105_2 : ad104.block ≠ gb103 := Nat.ne_of_lt (Nat.lt_of_lt_of_le qz42_ GW103.out); have hn105_3 : ad104.block ≠ gb103 := Nat.ne_of_lt (Nat.lt_of_lt_of_le qz42_ GW103.out); replace hx105_0 := (HB.out.cell (World.block_lt_of_cell? w _ hx105_0)).trans hx105_0; replace hx105_0 := (cell_far (p := ⟨gb103, 0, none⟩) qz43_ (.int .i64 ((rd_T115 l0_0 x5_1).f0))).trans hx105_0; replace hx105_0 := (cell_far (p := ⟨gb103, 1, none⟩) qz44_ (.int .i64 ((rd_T115 l0_0 x5_1).f1))).trans hx105_0; replace hx105_0 := (cell_far (p := ⟨gb103, 2, none⟩) qz45_ (.int .i64 ((rd_T115 l0_0 x5_1).f2))).trans hx105_0; replace hx105_0 := (cell_far (p := ⟨gb103, 3, none⟩) qz46_ (.int .i64 ((rd_T115 l0_0 x5_1).f3))).trans hx105_0; (try have hy105_0 := fun (n_ : Nat) => (show ((((((w15.drewN n_).setCell ⟨gb103, 0, none⟩ (.int .i64 ((rd_T115 l0_0 x5_1).f0))).setCell ⟨gb103, 1, none⟩ (.int .i64 ((rd_T115 l0_0 x5_1).f1))).setCell ⟨gb103, 2, none⟩ (.int .i64 ((rd_T115 l0_0 x5_1).f2))).setCell ⟨gb103, 3, none⟩ (.int .i64 ((rd_T115 l0_0 x5_1).f3)))).cell? _ = some _ from hx105_0)); clear hn105_0; clear hn105_1; clear hn105_2; clear hn105_3; replace p105 := eq_true p105; replace q105 := eq_true q105; have p106 : 0 ≤ (((rd_T115 l0_0 x5_1).f1) : Int) := of_decide_eq_true qz0_; have q106 : ((rd_T115 l0_0 x5_1).f1) < (l1.length : Int) := of_decide_eq_true qz0_; obtain ⟨ad106, e106, hx106_0⟩ := Kd.at_int HR1.out ((rd_T115 l0_0 x5_1).f1) p106 q106; obtain rfl : ad104 = ad106 := (by injection e106); have hn106_0 : ad104.block ≠ gb103 := Nat.ne_of_lt (Nat.lt_of_lt_of_le qz47_ GW103.out); have hn106_1 : ad104.block ≠ gb103 := Nat.ne_of_lt (Nat.lt_of_lt_of_le qz47_ GW103.out); have hn106_2 : ad104.block ≠ gb103 := Nat.ne_of_lt (Nat.lt_of_lt_of_le qz47_ GW103.out); have hn106_3 : ad104.block ≠ gb103 := Nat.ne_of_lt (Nat.lt_of_lt_of_le qz47_ GW103.out); replace hx106_0 := (HB.out.cell (World.block_lt_of_cell? w _ hx106_0)).trans hx106_0; replace hx106_0 := (cell_far (p := ⟨gb103, 0, none⟩) qz48_ (.int .i64 ((rd_T115 l0_0 x5_1).f0))).trans hx106_0; replace hx106_0 := (cell_far (p := ⟨gb103, 1, none⟩) qz49_ (.int .i64 ((rd_T115 l0_0 x5_1).f1))).trans hx106_0; replace hx106_0 := (cell_far (p := ⟨gb103, 2, none⟩) qz50_ (.int .i64 ((rd_T115 l0_0 x5_1).f2))).trans hx106_0; replace hx106_0 := (cell_far (p := ⟨gb103, 3, none⟩) qz51_ (.int .i64 ((rd_T115 l0_0 x5_1).f3))).trans hx106_0; (try have hy106_0 := fun (n_ : Nat) => (show ((((((w15.drewN n_).setCell ⟨gb103, 0, none⟩ (.int .i64 ((rd_T115 l0_0 x5_1).f0))).setCell ⟨gb103, 1, none⟩ (.int .i64 ((rd_T115 l0_0 x5_1).f1))).setCell ⟨gb103, 2, none⟩ (.int .i64 ((rd_T115 l0_0 x5_1).f2))).setCell ⟨gb103, 3, none⟩ (.int .i64 ((rd_T115 l0_0 x5_1).f3)))).cell? _ = some _ from hx106_0)); clear hn106_0; clear hn106_1; clear hn106_2; clear hn106_3; replace p106 := eq_true p106; replace q106 := eq_true q106)); try go_wp2_with (first | ((with_reducible refine gate_dst (N := 6) rfl ?_); refine box_event ?hg (N := 6) ?hd (cs := #[.int .i64 0, .int .i64 0, .int .i64 0, .int .i64 0]) (t := 115) ?hr ?_; (case hd => rfl); (case hg => rfl); (case hr => first | (go_simp; done) | (go_simp; rfl)); intro gb103 hg w15 hbox hb; have n0_ := am_ (blk_below (g := gb101) (o := .cells #[.slice (some ad102) l0_0.length c0_0] 63 (0, 0)) qz11_ hb); have n1_ := am_ (below_step qz10_ hb); have n2_ := am_ (hbox); have n3_ := am_ ((by rw [hg]; exact (below_size qz10_) : w.heap.size ≤ gb103)); have n4_ := am_ ((by rw [hg]; exact (below_size qz10_) : w.heap.size ≤ gb103)); have n5_ := am_ ((by rw [hg]; exact Nat.ne_of_lt (blk_lt (g := gb101) (o := .cells #[.slice (some ad102) l0_0.length c0_0] 63 (0, 0)) qz11_) : gb101 ≠ gb103)); have n6_ := am_ ((by rw [hg]; exact Nat.ne_of_gt (blk_lt (g := gb101) (o := .cells #[.slice (some ad102) l0_0.length c0_0] 63 (0, 0)) qz11_) : gb103 ≠ gb101)); clear BK101; clear HB; have BK101 := n0_; have HB := n1_; have BK103 := n2_; have GW103 := n3_; have GE103 := n4_; have NB101_103 := n5_; have NB103_101 := n6_; clear n0_ n1_ n2_ n3_ n4_ n5_ n6_; clear hb hbox hg; have hnb16 := NB103_101.out; have hnc16 := NB101_103.out; have hcz17_0 : w15.cell? ⟨gb103, 0, none⟩ = some (.int .i64 0) := (blk_cell BK103.out 0).trans rfl; have hcz17_1 : w15.cell? ⟨gb103, 1, none⟩ = some (.int .i64 0) := (blk_cell BK103.out 1).trans rfl; have hcz17_2 : w15.cell? ⟨gb103, 2, none⟩ = some (.int .i64 0) := (blk_cell BK103.out 2).trans rfl; have hcz17_3 : w15.cell? ⟨gb103, 3, none⟩ = some (.int .i64 0) := (blk_cell BK103.out 3).trans rfl; have hfz17_0 := blk_frozen BK103.out 0; have hfz17_1 := blk_frozen BK103.out 1; have hfz17_2 := blk_frozen BK103.out 2; have hfz17_3 := blk_frozen BK103.out 3; have p104 : 0 ≤ (((rd_T115 l0_0 x5_1).f1) : Int) := of_decide_eq_true qz0_; have q104 : ((rd_T115 l0_0 x5_1).f1) < (l1.length : Int) := of_decide_eq_true qz0_; obtain ⟨ad104, e104, hx104_0⟩ := Kd.at_int HR1.out ((rd_T115 l0_0 x5_1).f1) p104 q104; cases e104; have hn104_0 : ad104.block ≠ gb103 := Nat.ne_of_lt (Nat.lt_of_lt_of_le qz37_ GW103.out); have hn104_1 : ad104.block ≠ gb103 := Nat.ne_of_lt (Nat.lt_of_lt_of_le qz37_ GW103.out); have hn104_2 : ad104.block ≠ gb103 := Nat.ne_of_lt (Nat.lt_of_lt_of_le qz37_ GW103.out); have hn104_3 : ad104.block ≠ gb103 := Nat.ne_of_lt (Nat.lt_of_lt_of_le qz37_ GW103.out); replace hx104_0 := (HB.out.cell (World.block_lt_of_cell? w _ hx104_0)).trans hx104_0; replace hx104_0 := (cell_far (p := ⟨gb103, 0, none⟩) qz38_ (.int .i64 ((rd_T115 l0_0 x5_1).f0))).trans hx104_0; replace hx104_0 := (cell_far (p := ⟨gb103, 1, none⟩) qz39_ (.int .i64 ((rd_T115 l0_0 x5_1).f1))).trans hx104_0; replace hx104_0 := (cell_far (p := ⟨gb103, 2, none⟩) qz40_ (.int .i64 ((rd_T115 l0_0 x5_1).f2))).trans hx104_0; replace hx104_0 := (cell_far (p := ⟨gb103, 3, none⟩) qz41_ (.int .i64 ((rd_T115 l0_0 x5_1).f3))).trans hx104_0; (try have hy104_0 := fun (n_ : Nat) => (show ((((((w15.drewN n_).setCell ⟨gb103, 0, none⟩ (.int .i64 ((rd_T115 l0_0 x5_1).f0))).setCell ⟨gb103, 1, none⟩ (.int .i64 ((rd_T115 l0_0 x5_1).f1))).setCell ⟨gb103, 2, none⟩ (.int .i64 ((rd_T115 l0_0 x5_1).f2))).setCell ⟨gb103, 3, none⟩ (.int .i64 ((rd_T115 l0_0 x5_1).f3)))).cell? _ = some _ from hx104_0)); clear hn104_0; clear hn104_1; clear hn104_2; clear hn104_3; replace p104 := eq_true p104; replace q104 := eq_true q104; have p105 : 0 ≤ (((rd_T115 l0_0 x5_1).f2) : Int) := of_decide_eq_true qz0_; have q105 : ((rd_T115 l0_0 x5_1).f2) < (l1.length : Int) := of_decide_eq_true qz0_; obtain ⟨ad105, e105, hx105_0⟩ := Kd.at_int HR1.out ((rd_T115 l0_0 x5_1).f2) p105 q105; obtain rfl : ad104 = ad105 := (by injection e105); have hn105_0 : ad104.block ≠ gb103 := Nat.ne_of_lt (Nat.lt_of_lt_of_le qz42_ GW103.out); have hn105_1 : ad104.block ≠ gb103 := Nat.ne_of_lt (Nat.lt_of_lt_of_le qz42_ GW103.out); have hn105_2 : ad104.block ≠ gb103 := Nat.ne_of_lt (Nat.lt_of_lt_of_le qz42_ GW103.out); have hn105_3 : ad104.block ≠ gb103 := Nat.ne_of_lt (Nat.lt_of_lt_of_le qz42_ GW103.out); replace hx105_0 := (HB.out.cell (World.block_lt_of_cell? w _ hx105_0)).trans hx105_0; replace hx105_0 := (cell_far (p := ⟨gb103, 0, none⟩) qz43_ (.int .i64 ((rd_T115 l0_0 x5_1).f0))).trans hx105_0; replace hx105_0 := (cell_far (p := ⟨gb103, 1, none⟩) qz44_ (.int .i64 ((rd_T115 l0_0 x5_1).f1))).trans hx105_0; replace hx105_0 := (cell_far (p := ⟨gb103, 2, none⟩) qz45_ (.int .i64 ((rd_T115 l0_0 x5_1).f2))).trans hx105_0; replace hx105_0 := (cell_far (p := ⟨gb103, 3, none⟩) qz46_ (.int .i64 ((rd_T115 l0_0 x5_1).f3))).trans hx105_0; (try have hy105_0 := fun (n_ : Nat) => (show ((((((w15.drewN n_).setCell ⟨gb103, 0, none⟩ (.int .i64 ((rd_T115 l0_0 x5_1).f0))).setCell ⟨gb103, 1, none⟩ (.int .i64 ((rd_T115 l0_0 x5_1).f1))).setCell ⟨gb103, 2, none⟩ (.int .i64 ((rd_T115 l0_0 x5_1).f2))).setCell ⟨gb103, 3, none⟩ (.int .i64 ((rd_T115 l0_0 x5_1).f3)))).cell? _ = some _ from hx105_0)); clear hn105_0; clear hn105_1; clear hn105_2; clear hn105_3; replace p105 := eq_true p105; replace q105 := eq_true q105; have p106 : 0 ≤ (((rd_T115 l0_0 x5_1).f1) : Int) := of_decide_eq_true qz0_; have q106 : ((rd_T115 l0_0 x5_1).f1) < (l1.length : Int) := of_decide_eq_true qz0_; obtain ⟨ad106, e106, hx106_0⟩ := Kd.at_int HR1.out ((rd_T115 l0_0 x5_1).f1) p106 q106; obtain rfl : ad104 = ad106 := (by injection e106); have hn106_0 : ad104.block ≠ gb103 := Nat.ne_of_lt (Nat.lt_of_lt_of_le qz47_ GW103.out); have hn106_1 : ad104.block ≠ gb103 := Nat.ne_of_lt (Nat.lt_of_lt_of_le qz47_ GW103.out); have hn106_2 : ad104.block ≠ gb103 := Nat.ne_of_lt (Nat.lt_of_lt_of_le qz47_ GW103.out); have hn106_3 : ad104.block ≠ gb103 := Nat.ne_of_lt (Nat.lt_of_lt_of_le qz47_ GW103.out); replace hx106_0 := (HB.out.cell (World.block_lt_of_cell? w _ hx106_0)).trans hx106_0; replace hx106_0 := (cell_far (p := ⟨gb103, 0, none⟩) qz48_ (.int .i64 ((rd_T115 l0_0 x5_1).f0))).trans hx106_0; replace hx106_0 := (cell_far (p := ⟨gb103, 1, none⟩) qz49_ (.int .i64 ((rd_T115 l0_0 x5_1).f1))).trans hx106_0; replace hx106_0 := (cell_far (p := ⟨gb103, 2, none⟩) qz50_ (.int .i64 ((rd_T115 l0_0 x5_1).f2))).trans hx106_0; replace hx106_0 := (cell_far (p := ⟨gb103, 3, none⟩) qz51_ (.int .i64 ((rd_T115 l0_0 x5_1).f3))).trans hx106_0; (try have hy106_0 := fun (n_ : Nat) => (show ((((((w15.drewN n_).setCell ⟨gb103, 0, none⟩ (.int .i64 ((rd_T115 l0_0 x5_1).f0))).setCell ⟨gb103, 1, none⟩ (.int .i64 ((rd_T115 l0_0 x5_1).f1))).setCell ⟨gb103, 2, none⟩ (.int .i64 ((rd_T115 l0_0 x5_1).f2))).setCell ⟨gb103, 3, none⟩ (.int .i64 ((rd_T115 l0_0 x5_1).f3)))).cell? _ = some _ from hx106_0)); clear hn106_0; clear hn106_1; clear hn106_2; clear hn106_3; replace p106 := eq_true p106; replace q106 := eq_true q106)))
             go_ret
             exact ⟨qz5_, qz52_⟩
            ·
             rw [if_neg c13] at H
             have c13b0 : decide (1 < (rd l1 ((rd_T115 l0_0 x5_1).f1))) = false := decide_eq_false c13
             clear c13
             have H' := am_ H
             clear H
             have hcz18_0 : wr.cell? ⟨gb101, 0, none⟩ = some (.slice A0_0 l0_0.length c0_0) := (blk_cell BK101.out 0).trans rfl
             have hfz18_0 := blk_frozen BK101.out 0
             have p102 : 0 ≤ (x5_1 : Int) := of_decide_eq_true qz0_
             have q102 : x5_1 < (l0_0.length : Int) := of_decide_eq_true qz0_
             obtain ⟨ad102, e102, hx102_0, hx102_1, hx102_2, hx102_3⟩ := at_T115 HR0_0.out x5_1 p102 q102
             cases e102
             replace hx102_0 := (HB.out.cell (World.block_lt_of_cell? w _ hx102_0)).trans hx102_0
             replace hx102_1 := (HB.out.cell (World.block_lt_of_cell? w _ hx102_1)).trans hx102_1
             replace hx102_2 := (HB.out.cell (World.block_lt_of_cell? w _ hx102_2)).trans hx102_2
             replace hx102_3 := (HB.out.cell (World.block_lt_of_cell? w _ hx102_3)).trans hx102_3
             replace p102 := eq_true p102
             replace q102 := eq_true q102
             go_wp2_with (first | ((with_reducible refine gate_dst (N := 6) rfl ?_); refine box_event ?hg (N := 6) ?hd (cs := #[.int .i64 0, .int .i64 0, .int .i64 0, .int .i64 0]) (t := 115) ?hr ?_; (case hd => rfl); (case hg => rfl); (case hr => first | (go_simp; done) | (go_simp; rfl)); intro gb103 hg w19 hbox hb; have n0_ := am_ (blk_below (g := gb101) (o := .cells #[.slice (some ad102) l0_0.length c0_0] 63 (0, 0)) qz11_ hb); have n1_ := am_ (below_step qz10_ hb); have n2_ := am_ (hbox); have n3_ := am_ ((by rw [hg]; exact (below_size qz10_) : w.heap.size ≤ gb103)); have n4_ := am_ ((by rw [hg]; exact (below_size qz10_) : w.heap.size ≤ gb103)); have n5_ := am_ ((by rw [hg]; exact Nat.ne_of_lt (blk_lt (g := gb101) (o := .cells #[.slice (some ad102) l0_0.length c0_0] 63 (0, 0)) qz11_) : gb101 ≠ gb103)); have n6_ := am_ ((by rw [hg]; exact Nat.ne_of_gt (blk_lt (g := gb101) (o := .cells #[.slice (some ad102) l0_0.length c0_0] 63 (0, 0)) qz11_) : gb103 ≠ gb101)); clear BK101; clear HB; have BK101 := n0_; have HB := n1_; have BK103 := n2_; have GW103 := n3_; have GE103 := n4_; have NB101_103 := n5_; have NB103_101 := n6_; clear n0_ n1_ n2_ n3_ n4_ n5_ n6_; clear hb hbox hg; have hnb20 := NB103_101.out; have hnc20 := NB101_103.out; have hcz21_0 : w19.cell? ⟨gb103, 0, none⟩ = some (.int .i64 0) := (blk_cell BK103.out 0).trans rfl; have hcz21_1 : w19.cell? ⟨gb103, 1, none⟩ = some (.int .i64 0) := (blk_cell BK103.out 1).trans rfl; have hcz21_2 : w19.cell? ⟨gb103, 2, none⟩ = some (.int .i64 0) := (blk_cell BK103.out 2).trans rfl; have hcz21_3 : w19.cell? ⟨gb103, 3, none⟩ = some (.int .i64 0) := (blk_cell BK103.out 3).trans rfl; have hfz21_0 := blk_frozen BK103.out 0; have hfz21_1 := blk_frozen BK103.out 1; have hfz21_2 := blk_frozen BK103.out 2; have hfz21_3 := blk_frozen BK103.out 3; have p104 : 0 ≤ (((rd_T115 l0_0 x5_1).f1) : Int) := of_decide_eq_true qz0_; have q104 : ((rd_T115 l0_0 x5_1).f1) < (l1.length : Int) := of_decide_eq_true qz0_; obtain ⟨ad104, e104, hx104_0⟩ := Kd.at_int HR1.out ((rd_T115 l0_0 x5_1).f1) p104 q104; cases e104; have hn104_0 : ad104.block ≠ gb103 := Nat.ne_of_lt (Nat.lt_of_lt_of_le qz37_ GW103.out); have hn104_1 : ad104.block ≠ gb103 := Nat.ne_of_lt (Nat.lt_of_lt_of_le qz37_ GW103.out); have hn104_2 : ad104.block ≠ gb103 := Nat.ne_of_lt (Nat.lt_of_lt_of_le qz37_ GW103.out); have hn104_3 : ad104.block ≠ gb103 := Nat.ne_of_lt (Nat.lt_of_lt_of_le qz37_ GW103.out); replace hx104_0 := (HB.out.cell (World.block_lt_of_cell? w _ hx104_0)).trans hx104_0; replace hx104_0 := (cell_far (p := ⟨gb103, 0, none⟩) qz38_ (.int .i64 ((rd_T115 l0_0 x5_1).f0))).trans hx104_0; replace hx104_0 := (cell_far (p := ⟨gb103, 1, none⟩) qz39_ (.int .i64 ((rd_T115 l0_0 x5_1).f1))).trans hx104_0; replace hx104_0 := (cell_far (p := ⟨gb103, 2, none⟩) qz40_ (.int .i64 ((rd_T115 l0_0 x5_1).f2))).trans hx104_0; replace hx104_0 := (cell_far (p := ⟨gb103, 3, none⟩) qz41_ (.int .i64 ((rd_T115 l0_0 x5_1).f3))).trans hx104_0; (try have hy104_0 := fun (n_ : Nat) => (show ((((((w19.drewN n_).setCell ⟨gb103, 0, none⟩ (.int .i64 ((rd_T115 l0_0 x5_1).f0))).setCell ⟨gb103, 1, none⟩ (.int .i64 ((rd_T115 l0_0 x5_1).f1))).setCell ⟨gb103, 2, none⟩ (.int .i64 ((rd_T115 l0_0 x5_1).f2))).setCell ⟨gb103, 3, none⟩ (.int .i64 ((rd_T115 l0_0 x5_1).f3)))).cell? _ = some _ from hx104_0)); clear hn104_0; clear hn104_1; clear hn104_2; clear hn104_3; replace p104 := eq_true p104; replace q104 := eq_true q104; have p105 : 0 ≤ (((rd_T115 l0_0 x5_1).f2) : Int) := of_decide_eq_true qz0_; have q105 : ((rd_T115 l0_0 x5_1).f2) < (l1.length : Int) := of_decide_eq_true qz0_; obtain ⟨ad105, e105, hx105_0⟩ := Kd.at_int HR1.out ((rd_T115 l0_0 x5_1).f2) p105 q105; obtain rfl : ad104 = ad105 := (by injection e105); have hn105_0 : ad104.block ≠ gb103 := Nat.ne_of_lt (Nat.lt_of_lt_of_le qz42_ GW103.out); have hn105_1 : ad104.block ≠ gb103 := Nat.ne_of_lt (Nat.lt_of_lt_of_le qz42_ GW103.out); have hn105_2 : ad104.block ≠ gb103 := Nat.ne_of_lt (Nat.lt_of_lt_of_le qz42_ GW103.out); have hn105_3 : ad104.block ≠ gb103 := Nat.ne_of_lt (Nat.lt_of_lt_of_le qz42_ GW103.out); replace hx105_0 := (HB.out.cell (World.block_lt_of_cell? w _ hx105_0)).trans hx105_0; replace hx105_0 := (cell_far (p := ⟨gb103, 0, none⟩) qz43_ (.int .i64 ((rd_T115 l0_0 x5_1).f0))).trans hx105_0; replace hx105_0 := (cell_far (p := ⟨gb103, 1, none⟩) qz44_ (.int .i64 ((rd_T115 l0_0 x5_1).f1))).trans hx105_0; replace hx105_0 := (cell_far (p := ⟨gb103, 2, none⟩) qz45_ (.int .i64 ((rd_T115 l0_0 x5_1).f2))).trans hx105_0; replace hx105_0 := (cell_far (p := ⟨gb103, 3, none⟩) qz46_ (.int .i64 ((rd_T115 l0_0 x5_1).f3))).trans hx105_0; (try have hy105_0 := fun (n_ : Nat) => (show ((((((w19.drewN n_).setCell ⟨gb103, 0, none⟩ (.int .i64 ((rd_T115 l0_0 x5_1).f0))).setCell ⟨gb103, 1, none⟩ (.int .i64 ((rd_T115 l0_0 x5_1).f1))).setCell ⟨gb103, 2, none⟩ (.int .i64 ((rd_T115 l0_0 x5_1).f2))).setCell ⟨gb103, 3, none⟩ (.int .i64 ((rd_T115 l0_0 x5_1).f3)))).cell? _ = some _ from hx105_0)); clear hn105_0; clear hn105_1; clear hn105_2; clear hn105_3; replace p105 := eq_true p105; replace q105 := eq_true q105; have p106 : 0 ≤ (((rd_T115 l0_0 x5_1).f1) : Int) := of_decide_eq_true qz0_; have q106 : ((rd_T115 l0_0 x5_1).f1) < (l1.length : Int) := of_decide_eq_true qz0_; obtain ⟨ad106, e106, hx106_0⟩ := Kd.at_int HR1.out ((rd_T115 l0_0 x5_1).f1) p106 q106; obtain rfl : ad104 = ad106 := (by injection e106); have hn106_0 : ad104.block ≠ gb103 := Nat.ne_of_lt (Nat.lt_of_lt_of_le qz47_ GW103.out); have hn106_1 : ad104.block ≠ gb103 := Nat.ne_of_lt (Nat.lt_of_lt_of_le qz47_ GW103.out); have hn106_2 : ad104.block ≠ gb103 := Nat.ne_of_lt (Nat.lt_of_lt_of_le qz47_ GW103.out); have hn106_3 : ad104.block ≠ gb103 := Nat.ne_of_lt (Nat.lt_of_lt_of_le qz47_ GW103.out); replace hx106_0 := (HB.out.cell (World.block_lt_of_cell? w _ hx106_0)).trans hx106_0; replace hx106_0 := (cell_far (p := ⟨gb103, 0, none⟩) qz48_ (.int .i64 ((rd_T115 l0_0 x5_1).f0))).trans hx106_0; replace hx106_0 := (cell_far (p := ⟨gb103, 1, none⟩) qz49_ (.int .i64 ((rd_T115 l0_0 x5_1).f1))).trans hx106_0; replace hx106_0 := (cell_far (p := ⟨gb103, 2, none⟩) qz50_ (.int .i64 ((rd_T115 l0_0 x5_1).f2))).trans hx106_0; replace hx106_0 := (cell_far (p := ⟨gb103, 3, none⟩) qz51_ (.int .i64 ((rd_T115 l0_0 x5_1).f3))).trans hx106_0; (try have hy106_0 := fun (n_ : Nat) => (show ((((((w19.drewN n_).setCell ⟨gb103, 0, none⟩ (.int .i64 ((rd_T115 l0_0 x5_1).f0))).setCell ⟨gb103, 1, none⟩ (.int .i64 ((rd_T115 l0_0 x5_1).f1))).setCell ⟨gb103, 2, none⟩ (.int .i64 ((rd_T115 l0_0 x5_1).f2))).setCell ⟨gb103, 3, none⟩ (.int .i64 ((rd_T115 l0_0 x5_1).f3)))).cell? _ = some _ from hx106_0)); clear hn106_0; clear hn106_1; clear hn106_2; clear hn106_3; replace p106 := eq_true p106; replace q106 := eq_true q106))
             repeat (go_quiet (first | ((with_reducible refine gate_dst (N := 6) rfl ?_); refine box_event ?hg (N := 6) ?hd (cs := #[.int .i64 0, .int .i64 0, .int .i64 0, .int .i64 0]) (t := 115) ?hr ?_; (case hd => rfl); (case hg => rfl); (case hr => first | (go_simp; done) | (go_simp; rfl)); intro gb103 hg w19 hbox hb; have n0_ := am_ (blk_below (g := gb101) (o := .cells #[.slice (some ad102) l0_0.length c0_0] 63 (0, 0)) qz11_ hb); have n1_ := am_ (below_step qz10_ hb); have n2_ := am_ (hbox); have n3_ := am_ ((by rw [hg]; exact (below_size qz10_) : w.heap.size ≤ gb103)); have n4_ := am_ ((by rw [hg]; exact (below_size qz10_) : w.heap.size ≤ gb103)); have n5_ := am_ ((by rw [hg]; exact Nat.ne_of_lt (blk_lt (g := gb101) (o := .cells #[.slice (some ad102) l0_0.length c0_0] 63 (0, 0)) qz11_) : gb101 ≠ gb103)); have n6_ := am_ ((by rw [hg]; exact Nat.ne_of_gt (blk_lt (g := gb101) (o := .cells #[.slice (some ad102) l0_0.length c0_0] 63 (0, 0)) qz11_) : gb103 ≠ gb101)); clear BK101; clear HB; have BK101 := n0_; have HB := n1_; have BK103 := n2_; have GW103 := n3_; have GE103 := n4_; have NB101_103 := n5_; have NB103_101 := n6_; clear n0_ n1_ n2_ n3_ n4_ n5_ n6_; clear hb hbox hg; have hnb20 := NB103_101.out; have hnc20 := NB101_103.out; have hcz21_0 : w19.cell? ⟨gb103, 0, none⟩ = some (.int .i64 0) := (blk_cell BK103.out 0).trans rfl; have hcz21_1 : w19.cell? ⟨gb103, 1, none⟩ = some (.int .i64 0) := (blk_cell BK103.out 1).trans rfl; have hcz21_2 : w19.cell? ⟨gb103, 2, none⟩ = some (.int .i64 0) := (blk_cell BK103.out 2).trans rfl; have hcz21_3 : w19.cell? ⟨gb103, 3, none⟩ = some (.int .i64 0) := (blk_cell BK103.out 3).trans rfl; have hfz21_0 := blk_frozen BK103.out 0; have hfz21_1 := blk_frozen BK103.out 1; have hfz21_2 := blk_frozen BK103.out 2; have hfz21_3 := blk_frozen BK103.out 3; have p104 : 0 ≤ (((rd_T115 l0_0 x5_1).f1) : Int) := of_decide_eq_true qz0_; have q104 : ((rd_T115 l0_0 x5_1).f1) < (l1.length : Int) := of_decide_eq_true qz0_; obtain ⟨ad104, e104, hx104_0⟩ := Kd.at_int HR1.out ((rd_T115 l0_0 x5_1).f1) p104 q104; cases e104; have hn104_0 : ad104.block ≠ gb103 := Nat.ne_of_lt (Nat.lt_of_lt_of_le qz37_ GW103.out); have hn104_1 : ad104.block ≠ gb103 := Nat.ne_of_lt (Nat.lt_of_lt_of_le qz37_ GW103.out); have hn104_2 : ad104.block ≠ gb103 := Nat.ne_of_lt (Nat.lt_of_lt_of_le qz37_ GW103.out); have hn104_3 : ad104.block ≠ gb103 := Nat.ne_of_lt (Nat.lt_of_lt_of_le qz37_ GW103.out); replace hx104_0 := (HB.out.cell (World.block_lt_of_cell? w _ hx104_0)).trans hx104_0; replace hx104_0 := (cell_far (p := ⟨gb103, 0, none⟩) qz38_ (.int .i64 ((rd_T115 l0_0 x5_1).f0))).trans hx104_0; replace hx104_0 := (cell_far (p := ⟨gb103, 1, none⟩) qz39_ (.int .i64 ((rd_T115 l0_0 x5_1).f1))).trans hx104_0; replace hx104_0 := (cell_far (p := ⟨gb103, 2, none⟩) qz40_ (.int .i64 ((rd_T115 l0_0 x5_1).f2))).trans hx104_0; replace hx104_0 := (cell_far (p := ⟨gb103, 3, none⟩) qz41_ (.int .i64 ((rd_T115 l0_0 x5_1).f3))).trans hx104_0; (try have hy104_0 := fun (n_ : Nat) => (show ((((((w19.drewN n_).setCell ⟨gb103, 0, none⟩ (.int .i64 ((rd_T115 l0_0 x5_1).f0))).setCell ⟨gb103, 1, none⟩ (.int .i64 ((rd_T115 l0_0 x5_1).f1))).setCell ⟨gb103, 2, none⟩ (.int .i64 ((rd_T115 l0_0 x5_1).f2))).setCell ⟨gb103, 3, none⟩ (.int .i64 ((rd_T115 l0_0 x5_1).f3)))).cell? _ = some _ from hx104_0)); clear hn104_0; clear hn104_1; clear hn104_2; clear hn104_3; replace p104 := eq_true p104; replace q104 := eq_true q104; have p105 : 0 ≤ (((rd_T115 l0_0 x5_1).f2) : Int) := of_decide_eq_true qz0_; have q105 : ((rd_T115 l0_0 x5_1).f2) < (l1.length : Int) := of_decide_eq_true qz0_; obtain ⟨ad105, e105, hx105_0⟩ := Kd.at_int HR1.out ((rd_T115 l0_0 x5_1).f2) p105 q105; obtain rfl : ad104 = ad105 := (by injection e105); have hn105_0 : ad104.block ≠ gb103 := Nat.ne_of_lt (Nat.lt_of_lt_of_le qz42_ GW103.out); have hn105_1 : ad104.block ≠ gb103 := Nat.ne_of_lt (Nat.lt_of_lt_of_le qz42_ GW103.out); have hn105_2 : ad104.block ≠ gb103 := Nat.ne_of_lt (Nat.lt_of_lt_of_le qz42_ GW103.out); have hn105_3 : ad104.block ≠ gb103 := Nat.ne_of_lt (Nat.lt_of_lt_of_le qz42_ GW103.out); replace hx105_0 := (HB.out.cell (World.block_lt_of_cell? w _ hx105_0)).trans hx105_0; replace hx105_0 := (cell_far (p := ⟨gb103, 0, none⟩) qz43_ (.int .i64 ((rd_T115 l0_0 x5_1).f0))).trans hx105_0; replace hx105_0 := (cell_far (p := ⟨gb103, 1, none⟩) qz44_ (.int .i64 ((rd_T115 l0_0 x5_1).f1))).trans hx105_0; replace hx105_0 := (cell_far (p := ⟨gb103, 2, none⟩) qz45_ (.int .i64 ((rd_T115 l0_0 x5_1).f2))).trans hx105_0; replace hx105_0 := (cell_far (p := ⟨gb103, 3, none⟩) qz46_ (.int .i64 ((rd_T115 l0_0 x5_1).f3))).trans hx105_0; (try have hy105_0 := fun (n_ : Nat) => (show ((((((w19.drewN n_).setCell ⟨gb103, 0, none⟩ (.int .i64 ((rd_T115 l0_0 x5_1).f0))).setCell ⟨gb103, 1, none⟩ (.int .i64 ((rd_T115 l0_0 x5_1).f1))).setCell ⟨gb103, 2, none⟩ (.int .i64 ((rd_T115 l0_0 x5_1).f2))).setCell ⟨gb103, 3, none⟩ (.int .i64 ((rd_T115 l0_0 x5_1).f3)))).cell? _ = some _ from hx105_0)); clear hn105_0; clear hn105_1; clear hn105_2; clear hn105_3; replace p105 := eq_true p105; replace q105 := eq_true q105; have p106 : 0 ≤ (((rd_T115 l0_0 x5_1).f1) : Int) := of_decide_eq_true qz0_; have q106 : ((rd_T115 l0_0 x5_1).f1) < (l1.length : Int) := of_decide_eq_true qz0_; obtain ⟨ad106, e106, hx106_0⟩ := Kd.at_int HR1.out ((rd_T115 l0_0 x5_1).f1) p106 q106; obtain rfl : ad104 = ad106 := (by injection e106); have hn106_0 : ad104.block ≠ gb103 := Nat.ne_of_lt (Nat.lt_of_lt_of_le qz47_ GW103.out); have hn106_1 : ad104.block ≠ gb103 := Nat.ne_of_lt (Nat.lt_of_lt_of_le qz47_ GW103.out); have hn106_2 : ad104.block ≠ gb103 := Nat.ne_of_lt (Nat.lt_of_lt_of_le qz47_ GW103.out); have hn106_3 : ad104.block ≠ gb103 := Nat.ne_of_lt (Nat.lt_of_lt_of_le qz47_ GW103.out); replace hx106_0 := (HB.out.cell (World.block_lt_of_cell? w _ hx106_0)).trans hx106_0; replace hx106_0 := (cell_far (p := ⟨gb103, 0, none⟩) qz48_ (.int .i64 ((rd_T115 l0_0 x5_1).f0))).trans hx106_0; replace hx106_0 := (cell_far (p := ⟨gb103, 1, none⟩) qz49_ (.int .i64 ((rd_T115 l0_0 x5_1).f1))).trans hx106_0; replace hx106_0 := (cell_far (p := ⟨gb103, 2, none⟩) qz50_ (.int .i64 ((rd_T115 l0_0 x5_1).f2))).trans hx106_0; replace hx106_0 := (cell_far (p := ⟨gb103, 3, none⟩) qz51_ (.int .i64 ((rd_T115 l0_0 x5_1).f3))).trans hx106_0; (try have hy106_0 := fun (n_ : Nat) => (show ((((((w19.drewN n_).setCell ⟨gb103, 0, none⟩ (.int .i64 ((rd_T115 l0_0 x5_1).f0))).setCell ⟨gb103, 1, none⟩ (.int .i64 ((rd_T115 l0_0 x5_1).f1))).setCell ⟨gb103, 2, none⟩ (.int .i64 ((rd_T115 l0_0 x5_1).f2))).setCell ⟨gb103, 3, none⟩ (.int .i64 ((rd_T115 l0_0 x5_1).f3)))).cell? _ = some _ from hx106_0)); clear hn106_0; clear hn106_1; clear hn106_2; clear hn106_3; replace p106 := eq_true p106; replace q106 := eq_true q106)); try go_wp2_with (first | ((with_reducible refine gate_dst (N := 6) rfl ?_); refine box_event ?hg (N := 6) ?hd (cs := #[.int .i64 0, .int .i64 0, .int .i64 0, .int .i64 0]) (t := 115) ?hr ?_; (case hd => rfl); (case hg => rfl); (case hr => first | (go_simp; done) | (go_simp; rfl)); intro gb103 hg w19 hbox hb; have n0_ := am_ (blk_below (g := gb101) (o := .cells #[.slice (some ad102) l0_0.length c0_0] 63 (0, 0)) qz11_ hb); have n1_ := am_ (below_step qz10_ hb); have n2_ := am_ (hbox); have n3_ := am_ ((by rw [hg]; exact (below_size qz10_) : w.heap.size ≤ gb103)); have n4_ := am_ ((by rw [hg]; exact (below_size qz10_) : w.heap.size ≤ gb103)); have n5_ := am_ ((by rw [hg]; exact Nat.ne_of_lt (blk_lt (g := gb101) (o := .cells #[.slice (some ad102) l0_0.length c0_0] 63 (0, 0)) qz11_) : gb101 ≠ gb103)); have n6_ := am_ ((by rw [hg]; exact Nat.ne_of_gt (blk_lt (g := gb101) (o := .cells #[.slice (some ad102) l0_0.length c0_0] 63 (0, 0)) qz11_) : gb103 ≠ gb101)); clear BK101; clear HB; have BK101 := n0_; have HB := n1_; have BK103 := n2_; have GW103 := n3_; have GE103 := n4_; have NB101_103 := n5_; have NB103_101 := n6_; clear n0_ n1_ n2_ n3_ n4_ n5_ n6_; clear hb hbox hg; have hnb20 := NB103_101.out; have hnc20 := NB101_103.out; have hcz21_0 : w19.cell? ⟨gb103, 0, none⟩ = some (.int .i64 0) := (blk_cell BK103.out 0).trans rfl; have hcz21_1 : w19.cell? ⟨gb103, 1, none⟩ = some (.int .i64 0) := (blk_cell BK103.out 1).trans rfl; have hcz21_2 : w19.cell? ⟨gb103, 2, none⟩ = some (.int .i64 0) := (blk_cell BK103.out 2).trans rfl; have hcz21_3 : w19.cell? ⟨gb103, 3, none⟩ = some (.int .i64 0) := (blk_cell BK103.out 3).trans rfl; have hfz21_0 := blk_frozen BK103.out 0; have hfz21_1 := blk_frozen BK103.out 1; have hfz21_2 := blk_frozen BK103.out 2; have hfz21_3 := blk_frozen BK103.out 3; have p104 : 0 ≤ (((rd_T115 l0_0 x5_1).f1) : Int) := of_decide_eq_true qz0_; have q104 : ((rd_T115 l0_0 x5_1).f1) < (l1.length : Int) := of_decide_eq_true qz0_; obtain ⟨ad104, e104, hx104_0⟩ := Kd.at_int HR1.out ((rd_T115 l0_0 x5_1).f1) p104 q104; cases e104; have hn104_0 : ad104.block ≠ gb103 := Nat.ne_of_lt (Nat.lt_of_lt_of_le qz37_ GW103.out); have hn104_1 : ad104.block ≠ gb103 := Nat.ne_of_lt (Nat.lt_of_lt_of_le qz37_ GW103.out); have hn104_2 : ad104.block ≠ gb103 := Nat.ne_of_lt (Nat.lt_of_lt_of_le qz37_ GW103.out); have hn104_3 : ad104.block ≠ gb103 := Nat.ne_of_lt (Nat.lt_of_lt_of_le qz37_ GW103.out); replace hx104_0 := (HB.out.cell (World.block_lt_of_cell? w _ hx104_0)).trans hx104_0; replace hx104_0 := (cell_far (p := ⟨gb103, 0, none⟩) qz38_ (.int .i64 ((rd_T115 l0_0 x5_1).f0))).trans hx104_0; replace hx104_0 := (cell_far (p := ⟨gb103, 1, none⟩) qz39_ (.int .i64 ((rd_T115 l0_0 x5_1).f1))).trans hx104_0; replace hx104_0 := (cell_far (p := ⟨gb103, 2, none⟩) qz40_ (.int .i64 ((rd_T115 l0_0 x5_1).f2))).trans hx104_0; replace hx104_0 := (cell_far (p := ⟨gb103, 3, none⟩) qz41_ (.int .i64 ((rd_T115 l0_0 x5_1).f3))).trans hx104_0; (try have hy104_0 := fun (n_ : Nat) => (show ((((((w19.drewN n_).setCell ⟨gb103, 0, none⟩ (.int .i64 ((rd_T115 l0_0 x5_1).f0))).setCell ⟨gb103, 1, none⟩ (.int .i64 ((rd_T115 l0_0 x5_1).f1))).setCell ⟨gb103, 2, none⟩ (.int .i64 ((rd_T115 l0_0 x5_1).f2))).setCell ⟨gb103, 3, none⟩ (.int .i64 ((rd_T115 l0_0 x5_1).f3)))).cell? _ = some _ from hx104_0)); clear hn104_0; clear hn104_1; clear hn104_2; clear hn104_3; replace p104 := eq_true p104; replace q104 := eq_true q104; have p105 : 0 ≤ (((rd_T115 l0_0 x5_1).f2) : Int) := of_decide_eq_true qz0_; have q105 : ((rd_T115 l0_0 x5_1).f2) < (l1.length : Int) := of_decide_eq_true qz0_; obtain ⟨ad105, e105, hx105_0⟩ := Kd.at_int HR1.out ((rd_T115 l0_0 x5_1).f2) p105 q105; obtain rfl : ad104 = ad105 := (by injection e105); have hn105_0 : ad104.block ≠ gb103 := Nat.ne_of_lt (Nat.lt_of_lt_of_le qz42_ GW103.out); have hn105_1 : ad104.block ≠ gb103 := Nat.ne_of_lt (Nat.lt_of_lt_of_le qz42_ GW103.out); have hn105_2 : ad104.block ≠ gb103 := Nat.ne_of_lt (Nat.lt_of_lt_of_le qz42_ GW103.out); have hn105_3 : ad104.block ≠ gb103 := Nat.ne_of_lt (Nat.lt_of_lt_of_le qz42_ GW103.out); replace hx105_0 := (HB.out.cell (World.block_lt_of_cell? w _ hx105_0)).trans hx105_0; replace hx105_0 := (cell_far (p := ⟨gb103, 0, none⟩) qz43_ (.int .i64 ((rd_T115 l0_0 x5_1).f0))).trans hx105_0; replace hx105_0 := (cell_far (p := ⟨gb103, 1, none⟩) qz44_ (.int .i64 ((rd_T115 l0_0 x5_1).f1))).trans hx105_0; replace hx105_0 := (cell_far (p := ⟨gb103, 2, none⟩) qz45_ (.int .i64 ((rd_T115 l0_0 x5_1).f2))).trans hx105_0; replace hx105_0 := (cell_far (p := ⟨gb103, 3, none⟩) qz46_ (.int .i64 ((rd_T115 l0_0 x5_1).f3))).trans hx105_0; (try have hy105_0 := fun (n_ : Nat) => (show ((((((w19.drewN n_).setCell ⟨gb103, 0, none⟩ (.int .i64 ((rd_T115 l0_0 x5_1).f0))).setCell ⟨gb103, 1, none⟩ (.int .i64 ((rd_T115 l0_0 x5_1).f1))).setCell ⟨gb103, 2, none⟩ (.int .i64 ((rd_T115 l0_0 x5_1).f2))).setCell ⟨gb103, 3, none⟩ (.int .i64 ((rd_T115 l0_0 x5_1).f3)))).cell? _ = some _ from hx105_0)); clear hn105_0; clear hn105_1; clear hn105_2; clear hn105_3; replace p105 := eq_true p105; replace q105 := eq_true q105; have p106 : 0 ≤ (((rd_T115 l0_0 x5_1).f1) : Int) := of_decide_eq_true qz0_; have q106 : ((rd_T115 l0_0 x5_1).f1) < (l1.length : Int) := of_decide_eq_true qz0_; obtain ⟨ad106, e106, hx106_0⟩ := Kd.at_int HR1.out ((rd_T115 l0_0 x5_1).f1) p106 q106; obtain rfl : ad104 = ad106 := (by injection e106); have hn106_0 : ad104.block ≠ gb103 := Nat.ne_of_lt (Nat.lt_of_lt_of_le qz47_ GW103.out); have hn106_1 : ad104.block ≠ gb103 := Nat.ne_of_lt (Nat.lt_of_lt_of_le qz47_ GW103.out); have hn106_2 : ad104.block ≠ gb103 := Nat.ne_of_lt (Nat.lt_of_lt_of_le qz47_ GW103.out); have hn106_3 : ad104.block ≠ gb103 := Nat.ne_of_lt (Nat.lt_of_lt_of_le qz47_ GW103.out); replace hx106_0 := (HB.out.cell (World.block_lt_of_cell? w _ hx106_0)).trans hx106_0; replace hx106_0 := (cell_far (p := ⟨gb103, 0, none⟩) qz48_ (.int .i64 ((rd_T115 l0_0 x5_1).f0))).trans hx106_0; replace hx106_0 := (cell_far (p := ⟨gb103, 1, none⟩) qz49_ (.int .i64 ((rd_T115 l0_0 x5_1).f1))).trans hx106_0; replace hx106_0 := (cell_far (p := ⟨gb103, 2, none⟩) qz50_ (.int .i64 ((rd_T115 l0_0 x5_1).f2))).trans hx106_0; replace hx106_0 := (cell_far (p := ⟨gb103, 3, none⟩) qz51_ (.int .i64 ((rd_T115 l0_0 x5_1).f3))).trans hx106_0; (try have hy106_0 := fun (n_ : Nat) => (show ((((((w19.drewN n_).setCell ⟨gb103, 0, none⟩ (.int .i64 ((rd_T115 l0_0 x5_1).f0))).setCell ⟨gb103, 1, none⟩ (.int .i64 ((rd_T115 l0_0 x5_1).f1))).setCell ⟨gb103, 2, none⟩ (.int .i64 ((rd_T115 l0_0 x5_1).f2))).setCell ⟨gb103, 3, none⟩ (.int .i64 ((rd_T115 l0_0 x5_1).f3)))).cell? _ = some _ from hx106_0)); clear hn106_0; clear hn106_1; clear hn106_2; clear hn106_3; replace p106 := eq_true p106; replace q106 := eq_true q106)))
             go_roundg k1
             case measure => have := HK1.out; omega
             case rel => exact ⟨(wrap64 (x5_1 + 1)), qz2_, H', ⟨qz3_⟩, ⟨qz53_⟩, ⟨qz52_⟩⟩
           ·
            rw [if_neg c12] at H
            have c12b0 : (((rd_T115 l0_0 x5_1).f0) == 8) = false := beq_eq_false_iff_ne.mpr c12
            have c12b1 : (((rd_T115 l0_0 x5_1).f0) != 8) = true := bne_iff_ne.mpr c12
            have H' := am_ H
            clear H
            have hcz22_0 : wr.cell? ⟨gb101, 0, none⟩ = some (.slice A0_0 l0_0.length c0_0) := (blk_cell BK101.out 0).trans rfl
            have hfz22_0 := blk_frozen BK101.out 0
            have p102 : 0 ≤ (x5_1 : Int) := of_decide_eq_true qz0_
            have q102 : x5_1 < (l0_0.length : Int) := of_decide_eq_true qz0_
            obtain ⟨ad102, e102, hx102_0, hx102_1, hx102_2, hx102_3⟩ := at_T115 HR0_0.out x5_1 p102 q102
            cases e102
            replace hx102_0 := (HB.out.cell (World.block_lt_of_cell? w _ hx102_0)).trans hx102_0
            replace hx102_1 := (HB.out.cell (World.block_lt_of_cell? w _ hx102_1)).trans hx102_1
            replace hx102_2 := (HB.out.cell (World.block_lt_of_cell? w _ hx102_2)).trans hx102_2
            replace hx102_3 := (HB.out.cell (World.block_lt_of_cell? w _ hx102_3)).trans hx102_3
            replace p102 := eq_true p102
            replace q102 := eq_true q102
            go_wp2_with (first | ((with_reducible refine gate_dst (N := 6) rfl ?_); refine box_event ?hg (N := 6) ?hd (cs := #[.int .i64 0, .int .i64 0, .int .i64 0, .int .i64 0]) (t := 115) ?hr ?_; (case hd => rfl); (case hg => rfl); (case hr => first | (go_simp; done) | (go_simp; rfl)); intro gb103 hg w23 hbox hb; have n0_ := am_ (blk_below (g := gb101) (o := .cells #[.slice (some ad102) l0_0.length c0_0] 63 (0, 0)) qz11_ hb); have n1_ := am_ (below_step qz10_ hb); have n2_ := am_ (hbox); have n3_ := am_ ((by rw [hg]; exact (below_size qz10_) : w.heap.size ≤ gb103)); have n4_ := am_ ((by rw [hg]; exact (below_size qz10_) : w.heap.size ≤ gb103)); have n5_ := am_ ((by rw [hg]; exact Nat.ne_of_lt (blk_lt (g := gb101) (o := .cells #[.slice (some ad102) l0_0.length c0_0] 63 (0, 0)) qz11_) : gb101 ≠ gb103)); have n6_ := am_ ((by rw [hg]; exact Nat.ne_of_gt (blk_lt (g := gb101) (o := .cells #[.slice (some ad102) l0_0.length c0_0] 63 (0, 0)) qz11_) : gb103 ≠ gb101)); clear BK101; clear HB; have BK101 := n0_; have HB := n1_; have BK103 := n2_; have GW103 := n3_; have GE103 := n4_; have NB101_103 := n5_; have NB103_101 := n6_; clear n0_ n1_ n2_ n3_ n4_ n5_ n6_; clear hb hbox hg; have hnb24 := NB103_101.out; have hnc24 := NB101_103.out; have hcz25_0 : w23.cell? ⟨gb103, 0, none⟩ = some (.int .i64 0) := (blk_cell BK103.out 0).trans rfl; have hcz25_1 : w23.cell? ⟨gb103, 1, none⟩ = some (.int .i64 0) := (blk_cell BK103.out 1).trans rfl; have hcz25_2 : w23.cell? ⟨gb103, 2, none⟩ = some (.int .i64 0) := (blk_cell BK103.out 2).trans rfl; have hcz25_3 : w23.cell? ⟨gb103, 3, none⟩ = some (.int .i64 0) := (blk_cell BK103.out 3).trans rfl; have hfz25_0 := blk_frozen BK103.out 0; have hfz25_1 := blk_frozen BK103.out 1; have hfz25_2 := blk_frozen BK103.out 2; have hfz25_3 := blk_frozen BK103.out 3; have p104 : 0 ≤ (((rd_T115 l0_0 x5_1).f1) : Int) := of_decide_eq_true qz0_; have q104 : ((rd_T115 l0_0 x5_1).f1) < (l1.length : Int) := of_decide_eq_true qz0_; obtain ⟨ad104, e104, hx104_0⟩ := Kd.at_int HR1.out ((rd_T115 l0_0 x5_1).f1) p104 q104; cases e104; have hn104_0 : ad104.block ≠ gb103 := Nat.ne_of_lt (Nat.lt_of_lt_of_le qz37_ GW103.out); have hn104_1 : ad104.block ≠ gb103 := Nat.ne_of_lt (Nat.lt_of_lt_of_le qz37_ GW103.out); have hn104_2 : ad104.block ≠ gb103 := Nat.ne_of_lt (Nat.lt_of_lt_of_le qz37_ GW103.out); have hn104_3 : ad104.block ≠ gb103 := Nat.ne_of_lt (Nat.lt_of_lt_of_le qz37_ GW103.out); replace hx104_0 := (HB.out.cell (World.block_lt_of_cell? w _ hx104_0)).trans hx104_0; replace hx104_0 := (cell_far (p := ⟨gb103, 0, none⟩) qz38_ (.int .i64 ((rd_T115 l0_0 x5_1).f0))).trans hx104_0; replace hx104_0 := (cell_far (p := ⟨gb103, 1, none⟩) qz39_ (.int .i64 ((rd_T115 l0_0 x5_1).f1))).trans hx104_0; replace hx104_0 := (cell_far (p := ⟨gb103, 2, none⟩) qz40_ (.int .i64 ((rd_T115 l0_0 x5_1).f2))).trans hx104_0; replace hx104_0 := (cell_far (p := ⟨gb103, 3, none⟩) qz41_ (.int .i64 ((rd_T115 l0_0 x5_1).f3))).trans hx104_0; (try have hy104_0 := fun (n_ : Nat) => (show ((((((w23.drewN n_).setCell ⟨gb103, 0, none⟩ (.int .i64 ((rd_T115 l0_0 x5_1).f0))).setCell ⟨gb103, 1, none⟩ (.int .i64 ((rd_T115 l0_0 x5_1).f1))).setCell ⟨gb103, 2, none⟩ (.int .i64 ((rd_T115 l0_0 x5_1).f2))).setCell ⟨gb103, 3, none⟩ (.int .i64 ((rd_T115 l0_0 x5_1).f3)))).cell? _ = some _ from hx104_0)); clear hn104_0; clear hn104_1; clear hn104_2; clear hn104_3; replace p104 := eq_true p104; replace q104 := eq_true q104; have p105 : 0 ≤ (((rd_T115 l0_0 x5_1).f2) : Int) := of_decide_eq_true qz0_; have q105 : ((rd_T115 l0_0 x5_1).f2) < (l1.length : Int) := of_decide_eq_true qz0_; obtain ⟨ad105, e105, hx105_0⟩ := Kd.at_int HR1.out ((rd_T115 l0_0 x5_1).f2) p105 q105; obtain rfl : ad104 = ad105 := (by injection e105); have hn105_0 : ad104.block ≠ gb103 := Nat.ne_of_lt (Nat.lt_of_lt_of_le qz42_ GW103.out); have hn105_1 : ad104.block ≠ gb103 := Nat.ne_of_lt (Nat.lt_of_lt_of_le qz42_ GW103.out); have hn105_2 : ad104.block ≠ gb103 := Nat.ne_of_lt (Nat.lt_of_lt_of_le qz42_ GW103.out); have hn105_3 : ad104.block ≠ gb103 := Nat.ne_of_lt (Nat.lt_of_lt_of_le qz42_ GW103.out); replace hx105_0 := (HB.out.cell (World.block_lt_of_cell? w _ hx105_0)).trans hx105_0; replace hx105_0 := (cell_far (p := ⟨gb103, 0, none⟩) qz43_ (.int .i64 ((rd_T115 l0_0 x5_1).f0))).trans hx105_0; replace hx105_0 := (cell_far (p := ⟨gb103, 1, none⟩) qz44_ (.int .i64 ((rd_T115 l0_0 x5_1).f1))).trans hx105_0; replace hx105_0 := (cell_far (p := ⟨gb103, 2, none⟩) qz45_ (.int .i64 ((rd_T115 l0_0 x5_1).f2))).trans hx105_0; replace hx105_0 := (cell_far (p := ⟨gb103, 3, none⟩) qz46_ (.int .i64 ((rd_T115 l0_0 x5_1).f3))).trans hx105_0; (try have hy105_0 := fun (n_ : Nat) => (show ((((((w23.drewN n_).setCell ⟨gb103, 0, none⟩ (.int .i64 ((rd_T115 l0_0 x5_1).f0))).setCell ⟨gb103, 1, none⟩ (.int .i64 ((rd_T115 l0_0 x5_1).f1))).setCell ⟨gb103, 2, none⟩ (.int .i64 ((rd_T115 l0_0 x5_1).f2))).setCell ⟨gb103, 3, none⟩ (.int .i64 ((rd_T115 l0_0 x5_1).f3)))).cell? _ = some _ from hx105_0)); clear hn105_0; clear hn105_1; clear hn105_2; clear hn105_3; replace p105 := eq_true p105; replace q105 := eq_true q105))
            repeat (go_quiet (first | ((with_reducible refine gate_dst (N := 6) rfl ?_); refine box_event ?hg (N := 6) ?hd (cs := #[.int .i64 0, .int .i64 0, .int .i64 0, .int .i64 0]) (t := 115) ?hr ?_; (case hd => rfl); (case hg => rfl); (case hr => first | (go_simp; done) | (go_simp; rfl)); intro gb103 hg w23 hbox hb; have n0_ := am_ (blk_below (g := gb101) (o := .cells #[.slice (some ad102) l0_0.length c0_0] 63 (0, 0)) qz11_ hb); have n1_ := am_ (below_step qz10_ hb); have n2_ := am_ (hbox); have n3_ := am_ ((by rw [hg]; exact (below_size qz10_) : w.heap.size ≤ gb103)); have n4_ := am_ ((by rw [hg]; exact (below_size qz10_) : w.heap.size ≤ gb103)); have n5_ := am_ ((by rw [hg]; exact Nat.ne_of_lt (blk_lt (g := gb101) (o := .cells #[.slice (some ad102) l0_0.length c0_0] 63 (0, 0)) qz11_) : gb101 ≠ gb103)); have n6_ := am_ ((by rw [hg]; exact Nat.ne_of_gt (blk_lt (g := gb101) (o := .cells #[.slice (some ad102) l0_0.length c0_0] 63 (0, 0)) qz11_) : gb103 ≠ gb101)); clear BK101; clear HB; have BK101 := n0_; have HB := n1_; have BK103 := n2_; have GW103 := n3_; have GE103 := n4_; have NB101_103 := n5_; have NB103_101 := n6_; clear n0_ n1_ n2_ n3_ n4_ n5_ n6_; clear hb hbox hg; have hnb24 := NB103_101.out; have hnc24 := NB101_103.out; have hcz25_0 : w23.cell? ⟨gb103, 0, none⟩ = some (.int .i64 0) := (blk_cell BK103.out 0).trans rfl; have hcz25_1 : w23.cell? ⟨gb103, 1, none⟩ = some (.int .i64 0) := (blk_cell BK103.out 1).trans rfl; have hcz25_2 : w23.cell? ⟨gb103, 2, none⟩ = some (.int .i64 0) := (blk_cell BK103.out 2).trans rfl; have hcz25_3 : w23.cell? ⟨gb103, 3, none⟩ = some (.int .i64 0) := (blk_cell BK103.out 3).trans rfl; have hfz25_0 := blk_frozen BK103.out 0; have hfz25_1 := blk_frozen BK103.out 1; have hfz25_2 := blk_frozen BK103.out 2; have hfz25_3 := blk_frozen BK103.out 3; have p104 : 0 ≤ (((rd_T115 l0_0 x5_1).f1) : Int) := of_decide_eq_true qz0_; have q104 : ((rd_T115 l0_0 x5_1).f1) < (l1.length : Int) := of_decide_eq_true qz0_; obtain ⟨ad104, e104, hx104_0⟩ := Kd.at_int HR1.out ((rd_T115 l0_0 x5_1).f1) p104 q104; cases e104; have hn104_0 : ad104.block ≠ gb103 := Nat.ne_of_lt (Nat.lt_of_lt_of_le qz37_ GW103.out); have hn104_1 : ad104.block ≠ gb103 := Nat.ne_of_lt (Nat.lt_of_lt_of_le qz37_ GW103.out); have hn104_2 : ad104.block ≠ gb103 := Nat.ne_of_lt (Nat.lt_of_lt_of_le qz37_ GW103.out); have hn104_3 : ad104.block ≠ gb103 := Nat.ne_of_lt (Nat.lt_of_lt_of_le qz37_ GW103.out); replace hx104_0 := (HB.out.cell (World.block_lt_of_cell? w _ hx104_0)).trans hx104_0; replace hx104_0 := (cell_far (p := ⟨gb103, 0, none⟩) qz38_ (.int .i64 ((rd_T115 l0_0 x5_1).f0))).trans hx104_0; replace hx104_0 := (cell_far (p := ⟨gb103, 1, none⟩) qz39_ (.int .i64 ((rd_T115 l0_0 x5_1).f1))).trans hx104_0; replace hx104_0 := (cell_far (p := ⟨gb103, 2, none⟩) qz40_ (.int .i64 ((rd_T115 l0_0 x5_1).f2))).trans hx104_0; replace hx104_0 := (cell_far (p := ⟨gb103, 3, none⟩) qz41_ (.int .i64 ((rd_T115 l0_0 x5_1).f3))).trans hx104_0; (try have hy104_0 := fun (n_ : Nat) => (show ((((((w23.drewN n_).setCell ⟨gb103, 0, none⟩ (.int .i64 ((rd_T115 l0_0 x5_1).f0))).setCell ⟨gb103, 1, none⟩ (.int .i64 ((rd_T115 l0_0 x5_1).f1))).setCell ⟨gb103, 2, none⟩ (.int .i64 ((rd_T115 l0_0 x5_1).f2))).setCell ⟨gb103, 3, none⟩ (.int .i64 ((rd_T115 l0_0 x5_1).f3)))).cell? _ = some _ from hx104_0)); clear hn104_0; clear hn104_1; clear hn104_2; clear hn104_3; replace p104 := eq_true p104; replace q104 := eq_true q104; have p105 : 0 ≤ (((rd_T115 l0_0 x5_1).f2) : Int) := of_decide_eq_true qz0_; have q105 : ((rd_T115 l0_0 x5_1).f2) < (l1.length : Int) := of_decide_eq_true qz0_; obtain ⟨ad105, e105, hx105_0⟩ := Kd.at_int HR1.out ((rd_T115 l0_0 x5_1).f2) p105 q105; obtain rfl : ad104 = ad105 := (by injection e105); have hn105_0 : ad104.block ≠ gb103 := Nat.ne_of_lt (Nat.lt_of_lt_of_le qz42_ GW103.out); have hn105_1 : ad104.block ≠ gb103 := Nat.ne_of_lt (Nat.lt_of_lt_of_le qz42_ GW103.out); have hn105_2 : ad104.block ≠ gb103 := Nat.ne_of_lt (Nat.lt_of_lt_of_le qz42_ GW103.out); have hn105_3 : ad104.block ≠ gb103 := Nat.ne_of_lt (Nat.lt_of_lt_of_le qz42_ GW103.out); replace hx105_0 := (HB.out.cell (World.block_lt_of_cell? w _ hx105_0)).trans hx105_0; replace hx105_0 := (cell_far (p := ⟨gb103, 0, none⟩) qz43_ (.int .i64 ((rd_T115 l0_0 x5_1).f0))).trans hx105_0; replace hx105_0 := (cell_far (p := ⟨gb103, 1, none⟩) qz44_ (.int .i64 ((rd_T115 l0_0 x5_1).f1))).trans hx105_0; replace hx105_0 := (cell_far (p := ⟨gb103, 2, none⟩) qz45_ (.int .i64 ((rd_T115 l0_0 x5_1).f2))).trans hx105_0; replace hx105_0 := (cell_far (p := ⟨gb103, 3, none⟩) qz46_ (.int .i64 ((rd_T115 l0_0 x5_1).f3))).trans hx105_0; (try have hy105_0 := fun (n_ : Nat) => (show ((((((w23.drewN n_).setCell ⟨gb103, 0, none⟩ (.int .i64 ((rd_T115 l0_0 x5_1).f0))).setCell ⟨gb103, 1, none⟩ (.int .i64 ((rd_T115 l0_0 x5_1).f1))).setCell ⟨gb103, 2, none⟩ (.int .i64 ((rd_T115 l0_0 x5_1).f2))).setCell ⟨gb103, 3, none⟩ (.int .i64 ((rd_T115 l0_0 x5_1).f3)))).cell? _ = some _ from hx105_0)); clear hn105_0; clear hn105_1; clear hn105_2; clear hn105_3; replace p105 := eq_true p105; replace q105 := eq_true q105)); try go_wp2_with (first | ((with_reducible refine gate_dst (N := 6) rfl ?_); refine box_event ?hg (N := 6) ?hd (cs := #[.int .i64 0, .int .i64 0, .int .i64 0, .int .i64 0]) (t := 115) ?hr ?_; (case hd => rfl); (case hg => rfl); (case hr => first | (go_simp; done) | (go_simp; rfl)); intro gb103 hg w23 hbox hb; have n0_ := am_ (blk_below (g := gb101) (o := .cells #[.slice (some ad102) l0_0.length c0_0] 63 (0, 0)) qz11_ hb); have n1_ := am_ (below_step qz10_ hb); have n2_ := am_ (hbox); have n3_ := am_ ((by rw [hg]; exact (below_size qz10_) : w.heap.size ≤ gb103)); have n4_ := am_ ((by rw [hg]; exact (below_size qz10_) : w.heap.size ≤ gb103)); have n5_ := am_ ((by rw [hg]; exact Nat.ne_of_lt (blk_lt (g := gb101) (o := .cells #[.slice (some ad102) l0_0.length c0_0] 63 (0, 0)) qz11_) : gb101 ≠ gb103)); have n6_ := am_ ((by rw [hg]; exact Nat.ne_of_gt (blk_lt (g := gb101) (o := .cells #[.slice (some ad102) l0_0.length c0_0] 63 (0, 0)) qz11_) : gb103 ≠ gb101)); clear BK101; clear HB; have BK101 := n0_; have HB := n1_; have BK103 := n2_; have GW103 := n3_; have GE103 := n4_; have NB101_103 := n5_; have NB103_101 := n6_; clear n0_ n1_ n2_ n3_ n4_ n5_ n6_; clear hb hbox hg; have hnb24 := NB103_101.out; have hnc24 := NB101_103.out; have hcz25_0 : w23.cell? ⟨gb103, 0, none⟩ = some (.int .i64 0) := (blk_cell BK103.out 0).trans rfl; have hcz25_1 : w23.cell? ⟨gb103, 1, none⟩ = some (.int .i64 0) := (blk_cell BK103.out 1).trans rfl; have hcz25_2 : w23.cell? ⟨gb103, 2, none⟩ = some (.int .i64 0) := (blk_cell BK103.out 2).trans rfl; have hcz25_3 : w23.cell? ⟨gb103, 3, none⟩ = some (.int .i64 0) := (blk_cell BK103.out 3).trans rfl; have hfz25_0 := blk_frozen BK103.out 0; have hfz25_1 := blk_frozen BK103.out 1; have hfz25_2 := blk_frozen BK103.out 2; have hfz25_3 := blk_frozen BK103.out 3; have p104 : 0 ≤ (((rd_T115 l0_0 x5_1).f1) : Int) := of_decide_eq_true qz0_; have q104 : ((rd_T115 l0_0 x5_1).f1) < (l1.length : Int) := of_decide_eq_true qz0_; obtain ⟨ad104, e104, hx104_0⟩ := Kd.at_int HR1.out ((rd_T115 l0_0 x5_1).f1) p104 q104; cases e104; have hn104_0 : ad104.block ≠ gb103 := Nat.ne_of_lt (Nat.lt_of_lt_of_le qz37_ GW103.out); have hn104_1 : ad104.block ≠ gb103 := Nat.ne_of_lt (Nat.lt_of_lt_of_le qz37_ GW103.out); have hn104_2 : ad104.block ≠ gb103 := Nat.ne_of_lt (Nat.lt_of_lt_of_le qz37_ GW103.out); have hn104_3 : ad104.block ≠ gb103 := Nat.ne_of_lt (Nat.lt_of_lt_of_le qz37_ GW103.out); replace hx104_0 := (HB.out.cell (World.block_lt_of_cell? w _ hx104_0)).trans hx104_0; replace hx104_0 := (cell_far (p := ⟨gb103, 0, none⟩) qz38_ (.int .i64 ((rd_T115 l0_0 x5_1).f0))).trans hx104_0; replace hx104_0 := (cell_far (p := ⟨gb103, 1, none⟩) qz39_ (.int .i64 ((rd_T115 l0_0 x5_1).f1))).trans hx104_0; replace hx104_0 := (cell_far (p := ⟨gb103, 2, none⟩) qz40_ (.int .i64 ((rd_T115 l0_0 x5_1).f2))).trans hx104_0; replace hx104_0 := (cell_far (p := ⟨gb103, 3, none⟩) qz41_ (.int .i64 ((rd_T115 l0_0 x5_1).f3))).trans hx104_0; (try have hy104_0 := fun (n_ : Nat) => (show ((((((w23.drewN n_).setCell ⟨gb103, 0, none⟩ (.int .i64 ((rd_T115 l0_0 x5_1).f0))).setCell ⟨gb103, 1, none⟩ (.int .i64 ((rd_T115 l0_0 x5_1).f1))).setCell ⟨gb103, 2, none⟩ (.int .i64 ((rd_T115 l0_0 x5_1).f2))).setCell ⟨gb103, 3, none⟩ (.int .i64 ((rd_T115 l0_0 x5_1).f3)))).cell? _ = some _ from hx104_0)); clear hn104_0; clear hn104_1; clear hn104_2; clear hn104_3; replace p104 := eq_true p104; replace q104 := eq_true q104; have p105 : 0 ≤ (((rd_T115 l0_0 x5_1).f2) : Int) := of_decide_eq_true qz0_; have q105 : ((rd_T115 l0_0 x5_1).f2) < (l1.length : Int) := of_decide_eq_true qz0_; obtain ⟨ad105, e105, hx105_0⟩ := Kd.at_int HR1.out ((rd_T115 l0_0 x5_1).f2) p105 q105; obtain rfl : ad104 = ad105 := (by injection e105); have hn105_0 : ad104.block ≠ gb103 := Nat.ne_of_lt (Nat.lt_of_lt_of_le qz42_ GW103.out); have hn105_1 : ad104.block ≠ gb103 := Nat.ne_of_lt (Nat.lt_of_lt_of_le qz42_ GW103.out); have hn105_2 : ad104.block ≠ gb103 := Nat.ne_of_lt (Nat.lt_of_lt_of_le qz42_ GW103.out); have hn105_3 : ad104.block ≠ gb103 := Nat.ne_of_lt (Nat.lt_of_lt_of_le qz42_ GW103.out); replace hx105_0 := (HB.out.cell (World.block_lt_of_cell? w _ hx105_0)).trans hx105_0; replace hx105_0 := (cell_far (p := ⟨gb103, 0, none⟩) qz43_ (.int .i64 ((rd_T115 l0_0 x5_1).f0))).trans hx105_0; replace hx105_0 := (cell_far (p := ⟨gb103, 1, none⟩) qz44_ (.int .i64 ((rd_T115 l0_0 x5_1).f1))).trans hx105_0; replace hx105_0 := (cell_far (p := ⟨gb103, 2, none⟩) qz45_ (.int .i64 ((rd_T115 l0_0 x5_1).f2))).trans hx105_0; replace hx105_0 := (cell_far (p := ⟨gb103, 3, none⟩) qz46_ (.int .i64 ((rd_T115 l0_0 x5_1).f3))).trans hx105_0; (try have hy105_0 := fun (n_ : Nat) => (show ((((((w23.drewN n_).setCell ⟨gb103, 0, none⟩ (.int .i64 ((rd_T115 l0_0 x5_1).f0))).setCell ⟨gb103, 1, none⟩ (.int .i64 ((rd_T115 l0_0 x5_1).f1))).setCell ⟨gb103, 2, none⟩ (.int .i64 ((rd_T115 l0_0 x5_1).f2))).setCell ⟨gb103, 3, none⟩ (.int .i64 ((rd_T115 l0_0 x5_1).f3)))).cell? _ = some _ from hx105_0)); clear hn105_0; clear hn105_1; clear hn105_2; clear hn105_3; replace p105 := eq_true p105; replace q105 := eq_true q105)))
            go_roundg k1
            case measure => have := HK1.out; omega
            case rel => exact ⟨(wrap64 (x5_1 + 1)), qz2_, H', ⟨qz3_⟩, ⟨qz53_⟩, ⟨qz52_⟩⟩
          ·
           rw [if_neg c11] at H
           have c11b0 : ((rd l1 ((rd_T115 l0_0 x5_1).f1)) == (rd l1 ((rd_T115 l0_0 x5_1).f2))) = false := beq_eq_false_iff_ne.mpr c11
           have c11b1 : ((rd l1 ((rd_T115 l0_0 x5_1).f1)) != (rd l1 ((rd_T115 l0_0 x5_1).f2))) = true := bne_iff_ne.mpr c11
           obtain rfl := Option.some.inj H
           have hcz26_0 : wr.cell? ⟨gb101, 0, none⟩ = some (.slice A0_0 l0_0.length c0_0) := (blk_cell BK101.out 0).trans rfl
           have hfz26_0 := blk_frozen BK101.out 0
           have p102 : 0 ≤ (x5_1 : Int) := of_decide_eq_true qz0_
           have q102 : x5_1 < (l0_0.length : Int) := of_decide_eq_true qz0_
           obtain ⟨ad102, e102, hx102_0, hx102_1, hx102_2, hx102_3⟩ := at_T115 HR0_0.out x5_1 p102 q102
           cases e102
           replace hx102_0 := (HB.out.cell (World.block_lt_of_cell? w _ hx102_0)).trans hx102_0
           replace hx102_1 := (HB.out.cell (World.block_lt_of_cell? w _ hx102_1)).trans hx102_1
           replace hx102_2 := (HB.out.cell (World.block_lt_of_cell? w _ hx102_2)).trans hx102_2
           replace hx102_3 := (HB.out.cell (World.block_lt_of_cell? w _ hx102_3)).trans hx102_3
           replace p102 := eq_true p102
           replace q102 := eq_true q102
           go_wp2_with (first | ((with_reducible refine gate_dst (N := 6) rfl ?_); refine box_event ?hg (N := 6) ?hd (cs := #[.int .i64 0, .int .i64 0, .int .i64 0, .int .i64 0]) (t := 115) ?hr ?_; (case hd => rfl); (case hg => rfl); (case hr => first | (go_simp; done) | (go_simp; rfl)); intro gb103 hg w27 hbox hb; have n0_ := am_ (blk_below (g := gb101) (o := .cells #[.slice (some ad102) l0_0.length c0_0] 63 (0, 0)) qz11_ hb); have n1_ := am_ (below_step qz10_ hb); have n2_ := am_ (hbox); have n3_ := am_ ((by rw [hg]; exact (below_size qz10_) : w.heap.size ≤ gb103)); have n4_ := am_ ((by rw [hg]; exact (below_size qz10_) : w.heap.size ≤ gb103)); have n5_ := am_ ((by rw [hg]; exact Nat.ne_of_lt (blk_lt (g := gb101) (o := .cells #[.slice (some ad102) l0_0.length c0_0] 63 (0, 0)) qz11_) : gb101 ≠ gb103)); have n6_ := am_ ((by rw [hg]; exact Nat.ne_of_gt (blk_lt (g := gb101) (o := .cells #[.slice (some ad102) l0_0.length c0_0] 63 (0, 0)) qz11_) : gb103 ≠ gb101)); clear BK101; clear HB; have BK101 := n0_; have HB := n1_; have BK103 := n2_; have GW103 := n3_; have GE103 := n4_; have NB101_103 := n5_; have NB103_101 := n6_; clear n0_ n1_ n2_ n3_ n4_ n5_ n6_; clear hb hbox hg; have hnb28 := NB103_101.out; have hnc28 := NB101_103.out; have hcz29_0 : w27.cell? ⟨gb103, 0, none⟩ = some (.int .i64 0) := (blk_cell BK103.out 0).trans rfl; have hcz29_1 : w27.cell? ⟨gb103, 1, none⟩ = some (.int .i64 0) := (blk_cell BK103.out 1).trans rfl; have hcz29_2 : w27.cell? ⟨gb103, 2, none⟩ = some (.int .i64 0) := (blk_cell BK103.out 2).trans rfl; have hcz29_3 : w27.cell? ⟨gb103, 3, none⟩ = some (.int .i64 0) := (blk_cell BK103.out 3).trans rfl; have hfz29_0 := blk_frozen BK103.out 0; have hfz29_1 := blk_frozen BK103.out 1; have hfz29_2 := blk_frozen BK103.out 2; have hfz29_3 := blk_frozen BK103.out 3; have p104 : 0 ≤ (((rd_T115 l0_0 x5_1).f1) : Int) := of_decide_eq_true qz0_; have q104 : ((rd_T115 l0_0 x5_1).f1) < (l1.length : Int) := of_decide_eq_true qz0_; obtain ⟨ad104, e104, hx104_0⟩ := Kd.at_int HR1.out ((rd_T115 l0_0 x5_1).f1) p104 q104; cases e104; have hn104_0 : ad104.block ≠ gb103 := Nat.ne_of_lt (Nat.lt_of_lt_of_le qz37_ GW103.out); have hn104_1 : ad104.block ≠ gb103 := Nat.ne_of_lt (Nat.lt_of_lt_of_le qz37_ GW103.out); have hn104_2 : ad104.block ≠ gb103 := Nat.ne_of_lt (Nat.lt_of_lt_of_le qz37_ GW103.out); have hn104_3 : ad104.block ≠ gb103 := Nat.ne_of_lt (Nat.lt_of_lt_of_le qz37_ GW103.out); replace hx104_0 := (HB.out.cell (World.block_lt_of_cell? w _ hx104_0)).trans hx104_0; replace hx104_0 := (cell_far (p := ⟨gb103, 0, none⟩) qz38_ (.int .i64 ((rd_T115 l0_0 x5_1).f0))).trans hx104_0; replace hx104_0 := (cell_far (p := ⟨gb103, 1, none⟩) qz39_ (.int .i64 ((rd_T115 l0_0 x5_1).f1))).trans hx104_0; replace hx104_0 := (cell_far (p := ⟨gb103, 2, none⟩) qz40_ (.int .i64 ((rd_T115 l0_0 x5_1).f2))).trans hx104_0; replace hx104_0 := (cell_far (p := ⟨gb103, 3, none⟩) qz41_ (.int .i64 ((rd_T115 l0_0 x5_1).f3))).trans hx104_0; (try have hy104_0 := fun (n_ : Nat) => (show ((((((w27.drewN n_).setCell ⟨gb103, 0, none⟩ (.int .i64 ((rd_T115 l0_0 x5_1).f0))).setCell ⟨gb103, 1, none⟩ (.int .i64 ((rd_T115 l0_0 x5_1).f1))).setCell ⟨gb103, 2, none⟩ (.int .i64 ((rd_T115 l0_0 x5_1).f2))).setCell ⟨gb103, 3, none⟩ (.int .i64 ((rd_T115 l0_0 x5_1).f3)))).cell? _ = some _ from hx104_0)); clear hn104_0; clear hn104_1; clear hn104_2; clear hn104_3; replace p104 := eq_true p104; replace q104 := eq_true q104; have p105 : 0 ≤ (((rd_T115 l0_0 x5_1).f2) : Int) := of_decide_eq_true qz0_; have q105 : ((rd_T115 l0_0 x5_1).f2) < (l1.length : Int) := of_decide_eq_true qz0_; obtain ⟨ad105, e105, hx105_0⟩ := Kd.at_int HR1.out ((rd_T115 l0_0 x5_1).f2) p105 q105; obtain rfl : ad104 = ad105 := (by injection e105); have hn105_0 : ad104.block ≠ gb103 := Nat.ne_of_lt (Nat.lt_of_lt_of_le qz42_ GW103.out); have hn105_1 : ad104.block ≠ gb103 := Nat.ne_of_lt (Nat.lt_of_lt_of_le qz42_ GW103.out); have hn105_2 : ad104.block ≠ gb103 := Nat.ne_of_lt (Nat.lt_of_lt_of_le qz42_ GW103.out); have hn105_3 : ad104.block ≠ gb103 := Nat.ne_of_lt (Nat.lt_of_lt_of_le qz42_ GW103.out); replace hx105_0 := (HB.out.cell (World.block_lt_of_cell? w _ hx105_0)).trans hx105_0; replace hx105_0 := (cell_far (p := ⟨gb103, 0, none⟩) qz43_ (.int .i64 ((rd_T115 l0_0 x5_1).f0))).trans hx105_0; replace hx105_0 := (cell_far (p := ⟨gb103, 1, none⟩) qz44_ (.int .i64 ((rd_T115 l0_0 x5_1).f1))).trans hx105_0; replace hx105_0 := (cell_far (p := ⟨gb103, 2, none⟩) qz45_ (.int .i64 ((rd_T115 l0_0 x5_1).f2))).trans hx105_0; replace hx105_0 := (cell_far (p := ⟨gb103, 3, none⟩) qz46_ (.int .i64 ((rd_T115 l0_0 x5_1).f3))).trans hx105_0; (try have hy105_0 := fun (n_ : Nat) => (show ((((((w27.drewN n_).setCell ⟨gb103, 0, none⟩ (.int .i64 ((rd_T115 l0_0 x5_1).f0))).setCell ⟨gb103, 1, none⟩ (.int .i64 ((rd_T115 l0_0 x5_1).f1))).setCell ⟨gb103, 2, none⟩ (.int .i64 ((rd_T115 l0_0 x5_1).f2))).setCell ⟨gb103, 3, none⟩ (.int .i64 ((rd_T115 l0_0 x5_1).f3)))).cell? _ = some _ from hx105_0)); clear hn105_0; clear hn105_1; clear hn105_2; clear hn105_3; replace p105 := eq_true p105; replace q105 := eq_true q105))
           repeat (go_quiet (first | ((with_reducible refine gate_dst (N := 6) rfl ?_); refine box_event ?hg (N := 6) ?hd (cs := #[.int .i64 0, .int .i64 0, .int .i64 0, .int .i64 0]) (t := 115) ?hr ?_; (case hd => rfl); (case hg => rfl); (case hr => first | (go_simp; done) | (go_simp; rfl)); intro gb103 hg w27 hbox hb; have n0_ := am_ (blk_below (g := gb101) (o := .cells #[.slice (some ad102) l0_0.length c0_0] 63 (0, 0)) qz11_ hb); have n1_ := am_ (below_step qz10_ hb); have n2_ := am_ (hbox); have n3_ := am_ ((by rw [hg]; exact (below_size qz10_) : w.heap.size ≤ gb103)); have n4_ := am_ ((by rw [hg]; exact (below_size qz10_) : w.heap.size ≤ gb103)); have n5_ := am_ ((by rw [hg]; exact Nat.ne_of_lt (blk_lt (g := gb101) (o := .cells #[.slice (some ad102) l0_0.length c0_0] 63 (0, 0)) qz11_) : gb101 ≠ gb103)); have n6_ := am_ ((by rw [hg]; exact Nat.ne_of_gt (blk_lt (g := gb101) (o := .cells #[.slice (some ad102) l0_0.length c0_0] 63 (0, 0)) qz11_) : gb103 ≠ gb101)); clear BK101; clear HB; have BK101 := n0_; have HB := n1_; have BK103 := n2_; have GW103 := n3_; have GE103 := n4_; have NB101_103 := n5_; have NB103_101 := n6_; clear n0_ n1_ n2_ n3_ n4_ n5_ n6_; clear hb hbox hg; have hnb28 := NB103_101.out; have hnc28 := NB101_103.out; have hcz29_0 : w27.cell? ⟨gb103, 0, none⟩ = some (.int .i64 0) := (blk_cell BK103.out 0).trans rfl; have hcz29_1 : w27.cell? ⟨gb103, 1, none⟩ = some (.int .i64 0) := (blk_cell BK103.out 1).trans rfl; have hcz29_2 : w27.cell? ⟨gb103, 2, none⟩ = some (.int .i64 0) := (blk_cell BK103.out 2).trans rfl; have hcz29_3 : w27.cell? ⟨gb103, 3, none⟩ = some (.int .i64 0) := (blk_cell BK103.out 3).trans rfl; have hfz29_0 := blk_frozen BK103.out 0; have hfz29_1 := blk_frozen BK103.out 1; have hfz29_2 := blk_frozen BK103.out 2; have hfz29_3 := blk_frozen BK103.out 3; have p104 : 0 ≤ (((rd_T115 l0_0 x5_1).f1) : Int) := of_decide_eq_true qz0_; have q104 : ((rd_T115 l0_0 x5_1).f1) < (l1.length : Int) := of_decide_eq_true qz0_; obtain ⟨ad104, e104, hx104_0⟩ := Kd.at_int HR1.out ((rd_T115 l0_0 x5_1).f1) p104 q104; cases e104; have hn104_0 : ad104.block ≠ gb103 := Nat.ne_of_lt (Nat.lt_of_lt_of_le qz37_ GW103.out); have hn104_1 : ad104.block ≠ gb103 := Nat.ne_of_lt (Nat.lt_of_lt_of_le qz37_ GW103.out); have hn104_2 : ad104.block ≠ gb103 := Nat.ne_of_lt (Nat.lt_of_lt_of_le qz37_ GW103.out); have hn104_3 : ad104.block ≠ gb103 := Nat.ne_of_lt (Nat.lt_of_lt_of_le qz37_ GW103.out); replace hx104_0 := (HB.out.cell (World.block_lt_of_cell? w _ hx104_0)).trans hx104_0; replace hx104_0 := (cell_far (p := ⟨gb103, 0, none⟩) qz38_ (.int .i64 ((rd_T115 l0_0 x5_1).f0))).trans hx104_0; replace hx104_0 := (cell_far (p := ⟨gb103, 1, none⟩) qz39_ (.int .i64 ((rd_T115 l0_0 x5_1).f1))).trans hx104_0; replace hx104_0 := (cell_far (p := ⟨gb103, 2, none⟩) qz40_ (.int .i64 ((rd_T115 l0_0 x5_1).f2))).trans hx104_0; replace hx104_0 := (cell_far (p := ⟨gb103, 3, none⟩) qz41_ (.int .i64 ((rd_T115 l0_0 x5_1).f3))).trans hx104_0; (try have hy104_0 := fun (n_ : Nat) => (show ((((((w27.drewN n_).setCell ⟨gb103, 0, none⟩ (.int .i64 ((rd_T115 l0_0 x5_1).f0))).setCell ⟨gb103, 1, none⟩ (.int .i64 ((rd_T115 l0_0 x5_1).f1))).setCell ⟨gb103, 2, none⟩ (.int .i64 ((rd_T115 l0_0 x5_1).f2))).setCell ⟨gb103, 3, none⟩ (.int .i64 ((rd_T115 l0_0 x5_1).f3)))).cell? _ = some _ from hx104_0)); clear hn104_0; clear hn104_1; clear hn104_2; clear hn104_3; replace p104 := eq_true p104; replace q104 := eq_true q104; have p105 : 0 ≤ (((rd_T115 l0_0 x5_1).f2) : Int) := of_decide_eq_true qz0_; have q105 : ((rd_T115 l0_0 x5_1).f2) < (l1.length : Int) := of_decide_eq_true qz0_; obtain ⟨ad105, e105, hx105_0⟩ := Kd.at_int HR1.out ((rd_T115 l0_0 x5_1).f2) p105 q105; obtain rfl : ad104 = ad105 := (by injection e105); have hn105_0 : ad104.block ≠ gb103 := Nat.ne_of_lt (Nat.lt_of_lt_of_le qz42_ GW103.out); have hn105_1 : ad104.block ≠ gb103 := Nat.ne_of_lt (Nat.lt_of_lt_of_le qz42_ GW103.out); have hn105_2 : ad104.block ≠ gb103 := Nat.ne_of_lt (Nat.lt_of_lt_of_le qz42_ GW103.out); have hn105_3 : ad104.block ≠ gb103 := Nat.ne_of_lt (Nat.lt_of_lt_of_le qz42_ GW103.out); replace hx105_0 := (HB.out.cell (World.block_lt_of_cell? w _ hx105_0)).trans hx105_0; replace hx105_0 := (cell_far (p := ⟨gb103, 0, none⟩) qz43_ (.int .i64 ((rd_T115 l0_0 x5_1).f0))).trans hx105_0; replace hx105_0 := (cell_far (p := ⟨gb103, 1, none⟩) qz44_ (.int .i64 ((rd_T115 l0_0 x5_1).f1))).trans hx105_0; replace hx105_0 := (cell_far (p := ⟨gb103, 2, none⟩) qz45_ (.int .i64 ((rd_T115 l0_0 x5_1).f2))).trans hx105_0; replace hx105_0 := (cell_far (p := ⟨gb103, 3, none⟩) qz46_ (.int .i64 ((rd_T115 l0_0 x5_1).f3))).trans hx105_0; (try have hy105_0 := fun (n_ : Nat) => (show ((((((w27.drewN n_).setCell ⟨gb103, 0, none⟩ (.int .i64 ((rd_T115 l0_0 x5_1).f0))).setCell ⟨gb103, 1, none⟩ (.int .i64 ((rd_T115 l0_0 x5_1).f1))).setCell ⟨gb103, 2, none⟩ (.int .i64 ((rd_T115 l0_0 x5_1).f2))).setCell ⟨gb103, 3, none⟩ (.int .i64 ((rd_T115 l0_0 x5_1).f3)))).cell? _ = some _ from hx105_0)); clear hn105_0; clear hn105_1; clear hn105_2; clear hn105_3; replace p105 := eq_true p105; replace q105 := eq_true q105)); try go_wp2_with (first | ((with_reducible refine gate_dst (N := 6) rfl ?_); refine box_event ?hg (N := 6) ?hd (cs := #[.int .i64 0, .int .i64 0, .int .i64 0, .int .i64 0]) (t := 115) ?hr ?_; (case hd => rfl); (case hg => rfl); (case hr => first | (go_simp; done) | (go_simp; rfl)); intro gb103 hg w27 hbox hb; have n0_ := am_ (blk_below (g := gb101) (o := .cells #[.slice (some ad102) l0_0.length c0_0] 63 (0, 0)) qz11_ hb); have n1_ := am_ (below_step qz10_ hb); have n2_ := am_ (hbox); have n3_ := am_ ((by rw [hg]; exact (below_size qz10_) : w.heap.size ≤ gb103)); have n4_ := am_ ((by rw [hg]; exact (below_size qz10_) : w.heap.size ≤ gb103)); have n5_ := am_ ((by rw [hg]; exact Nat.ne_of_lt (blk_lt (g := gb101) (o := .cells #[.slice (some ad102) l0_0.length c0_0] 63 (0, 0)) qz11_) : gb101 ≠ gb103)); have n6_ := am_ ((by rw [hg]; exact Nat.ne_of_gt (blk_lt (g := gb101) (o := .cells #[.slice (some ad102) l0_0.length c0_0] 63 (0, 0)) qz11_) : gb103 ≠ gb101)); clear BK101; clear HB; have BK101 := n0_; have HB := n1_; have BK103 := n2_; have GW103 := n3_; have GE103 := n4_; have NB101_103 := n5_; have NB103_101 := n6_; clear n0_ n1_ n2_ n3_ n4_ n5_ n6_; clear hb hbox hg; have hnb28 := NB103_101.out; have hnc28 := NB101_103.out; have hcz29_0 : w27.cell? ⟨gb103, 0, none⟩ = some (.int .i64 0) := (blk_cell BK103.out 0).trans rfl; have hcz29_1 : w27.cell? ⟨gb103, 1, none⟩ = some (.int .i64 0) := (blk_cell BK103.out 1).trans rfl; have hcz29_2 : w27.cell? ⟨gb103, 2, none⟩ = some (.int .i64 0) := (blk_cell BK103.out 2).trans rfl; have hcz29_3 : w27.cell? ⟨gb103, 3, none⟩ = some (.int .i64 0) := (blk_cell BK103.out 3).trans rfl; have hfz29_0 := blk_frozen BK103.out 0; have hfz29_1 := blk_frozen BK103.out 1; have hfz29_2 := blk_frozen BK103.out 2; have hfz29_3 := blk_frozen BK103.out 3; have p104 : 0 ≤ (((rd_T115 l0_0 x5_1).f1) : Int) := of_decide_eq_true qz0_; have q104 : ((rd_T115 l0_0 x5_1).f1) < (l1.length : Int) := of_decide_eq_true qz0_; obtain ⟨ad104, e104, hx104_0⟩ := Kd.at_int HR1.out ((rd_T115 l0_0 x5_1).f1) p104 q104; cases e104; have hn104_0 : ad104.block ≠ gb103 := Nat.ne_of_lt (Nat.lt_of_lt_of_le qz37_ GW103.out); have hn104_1 : ad104.block ≠ gb103 := Nat.ne_of_lt (Nat.lt_of_lt_of_le qz37_ GW103.out); have hn104_2 : ad104.block ≠ gb103 := Nat.ne_of_lt (Nat.lt_of_lt_of_le qz37_ GW103.out); have hn104_3 : ad104.block ≠ gb103 := Nat.ne_of_lt (Nat.lt_of_lt_of_le qz37_ GW103.out); replace hx104_0 := (HB.out.cell (World.block_lt_of_cell? w _ hx104_0)).trans hx104_0; replace hx104_0 := (cell_far (p := ⟨gb103, 0, none⟩) qz38_ (.int .i64 ((rd_T115 l0_0 x5_1).f0))).trans hx104_0; replace hx104_0 := (cell_far (p := ⟨gb103, 1, none⟩) qz39_ (.int .i64 ((rd_T115 l0_0 x5_1).f1))).trans hx104_0; replace hx104_0 := (cell_far (p := ⟨gb103, 2, none⟩) qz40_ (.int .i64 ((rd_T115 l0_0 x5_1).f2))).trans hx104_0; replace hx104_0 := (cell_far (p := ⟨gb103, 3, none⟩) qz41_ (.int .i64 ((rd_T115 l0_0 x5_1).f3))).trans hx104_0; (try have hy104_0 := fun (n_ : Nat) => (show ((((((w27.drewN n_).setCell ⟨gb103, 0, none⟩ (.int .i64 ((rd_T115 l0_0 x5_1).f0))).setCell ⟨gb103, 1, none⟩ (.int .i64 ((rd_T115 l0_0 x5_1).f1))).setCell ⟨gb103, 2, none⟩ (.int .i64 ((rd_T115 l0_0 x5_1).f2))).setCell ⟨gb103, 3, none⟩ (.int .i64 ((rd_T115 l0_0 x5_1).f3)))).cell? _ = some _ from hx104_0)); clear hn104_0; clear hn104_1; clear hn104_2; clear hn104_3; replace p104 := eq_true p104; replace q104 := eq_true q104; have p105 : 0 ≤ (((rd_T115 l0_0 x5_1).f2) : Int) := of_decide_eq_true qz0_; have q105 : ((rd_T115 l0_0 x5_1).f2) < (l1.length : Int) := of_decide_eq_true qz0_; obtain ⟨ad105, e105, hx105_0⟩ := Kd.at_int HR1.out ((rd_T115 l0_0 x5_1).f2) p105 q105; obtain rfl : ad104 = ad105 := (by injection e105); have hn105_0 : ad104.block ≠ gb103 := Nat.ne_of_lt (Nat.lt_of_lt_of_le qz42_ GW103.out); have hn105_1 : ad104.block ≠ gb103 := Nat.ne_of_lt (Nat.lt_of_lt_of_le qz42_ GW103.out); have hn105_2 : ad104.block ≠ gb103 := Nat.ne_of_lt (Nat.lt_of_lt_of_le qz42_ GW103.out); have hn105_3 : ad104.block ≠ gb103 := Nat.ne_of_lt (Nat.lt_of_lt_of_le qz42_ GW103.out); replace hx105_0 := (HB.out.cell (World.block_lt_of_cell? w _ hx105_0)).trans hx105_0; replace hx105_0 := (cell_far (p := ⟨gb103, 0, none⟩) qz43_ (.int .i64 ((rd_T115 l0_0 x5_1).f0))).trans hx105_0; replace hx105_0 := (cell_far (p := ⟨gb103, 1, none⟩) qz44_ (.int .i64 ((rd_T115 l0_0 x5_1).f1))).trans hx105_0; replace hx105_0 := (cell_far (p := ⟨gb103, 2, none⟩) qz45_ (.int .i64 ((rd_T115 l0_0 x5_1).f2))).trans hx105_0; replace hx105_0 := (cell_far (p := ⟨gb103, 3, none⟩) qz46_ (.int .i64 ((rd_T115 l0_0 x5_1).f3))).trans hx105_0; (try have hy105_0 := fun (n_ : Nat) => (show ((((((w27.drewN n_).setCell ⟨gb103, 0, none⟩ (.int .i64 ((rd_T115 l0_0 x5_1).f0))).setCell ⟨gb103, 1, none⟩ (.int .i64 ((rd_T115 l0_0 x5_1).f1))).setCell ⟨gb103, 2, none⟩ (.int .i64 ((rd_T115 l0_0 x5_1).f2))).setCell ⟨gb103, 3, none⟩ (.int .i64 ((rd_T115 l0_0 x5_1).f3)))).cell? _ = some _ from hx105_0)); clear hn105_0; clear hn105_1; clear hn105_2; clear hn105_3; replace p105 := eq_true p105; replace q105 := eq_true q105)))
           go_ret
           exact ⟨qz5_, qz52_⟩
         ·
          rw [if_neg c10] at H
          exact absurd H (by simp)
        ·
         rw [if_neg c9] at H
         exact absurd H (by simp)
       ·
        rw [if_neg c8] at H
        exact absurd H (by simp)
      ·
       rw [if_neg c7] at H
       exact absurd H (by simp)
     ·
      rw [if_neg c6] at H
      have c6b0 : (((rd_T115 l0_0 x5_1).f0) == 7) = false := beq_eq_false_iff_ne.mpr c6
      have c6b1 : (((rd_T115 l0_0 x5_1).f0) != 7) = true := bne_iff_ne.mpr c6
      by_cases c30 : ((rd_T115 l0_0 x5_1).f0) = 8
      ·
       rw [if_pos c30] at H
       have c30b0 : (((rd_T115 l0_0 x5_1).f0) == 8) = true := beq_iff_eq.mpr c30
       have c30b1 : (((rd_T115 l0_0 x5_1).f0) != 8) = false := bne_eq_false_iff_eq.mpr c30
       clear c30
       by_cases c31 : 0 ≤ ((rd_T115 l0_0 x5_1).f1)
       ·
        rw [if_pos c31] at H
        have c31b0 : decide (0 ≤ ((rd_T115 l0_0 x5_1).f1)) = true := decide_eq_true c31
        clear c31
        by_cases c32 : ((rd_T115 l0_0 x5_1).f1) < (l1.length : Int)
        ·
         rw [if_pos c32] at H
         have c32b0 : decide (((rd_T115 l0_0 x5_1).f1) < (l1.length : Int)) = true := decide_eq_true c32
         clear c32
         by_cases c33 : (rd l1 ((rd_T115 l0_0 x5_1).f1)) > 1
         ·
          rw [if_pos c33] at H
          have c33b0 : decide (1 < (rd l1 ((rd_T115 l0_0 x5_1).f1))) = true := decide_eq_true c33
          clear c33
          obtain rfl := Option.some.inj H
          have hcz34_0 : wr.cell? ⟨gb101, 0, none⟩ = some (.slice A0_0 l0_0.length c0_0) := (blk_cell BK101.out 0).trans rfl
          have hfz34_0 := blk_frozen BK101.out 0
          have p102 : 0 ≤ (x5_1 : Int) := of_decide_eq_true qz0_
          have q102 : x5_1 < (l0_0.length : Int) := of_decide_eq_true qz0_
          obtain ⟨ad102, e102, hx102_0, hx102_1, hx102_2, hx102_3⟩ := at_T115 HR0_0.out x5_1 p102 q102
          cases e102
          replace hx102_0 := (HB.out.cell (World.block_lt_of_cell? w _ hx102_0)).trans hx102_0
          replace hx102_1 := (HB.out.cell (World.block_lt_of_cell? w _ hx102_1)).trans hx102_1
          replace hx102_2 := (HB.out.cell (World.block_lt_of_cell? w _ hx102_2)).trans hx102_2
          replace hx102_3 := (HB.out.cell (World.block_lt_of_cell? w _ hx102_3)).trans hx102_3
          replace p102 := eq_true p102
          replace q102 := eq_true q102
          go_wp2_with (first | ((with_reducible refine gate_dst (N := 6) rfl ?_); refine box_event ?hg (N := 6) ?hd (cs := #[.int .i64 0, .int .i64 0, .int .i64 0, .int .i64 0]) (t := 115) ?hr ?_; (case hd => rfl); (case hg => rfl); (case hr => first | (go_simp; done) | (go_simp; rfl)); intro gb103 hg w35 hbox hb; have n0_ := am_ (blk_below (g := gb101) (o := .cells #[.slice (some ad102) l0_0.length c0_0] 63 (0, 0)) qz11_ hb); have n1_ := am_ (below_step qz10_ hb); have n2_ := am_ (hbox); have n3_ := am_ ((by rw [hg]; exact (below_size qz10_) : w.heap.size ≤ gb103)); have n4_ := am_ ((by rw [hg]; exact (below_size qz10_) : w.heap.size ≤ gb103)); have n5_ := am_ ((by rw [hg]; exact Nat.ne_of_lt (blk_lt (g := gb101) (o := .cells #[.slice (some ad102) l0_0.length c0_0] 63 (0, 0)) qz11_) : gb101 ≠ gb103)); have n6_ := am_ ((by rw [hg]; exact Nat.ne_of_gt (blk_lt (g := gb101) (o := .cells #[.slice (some ad102) l0_0.length c0_0] 63 (0, 0)) qz11_) : gb103 ≠ gb101)); clear BK101; clear HB; have BK101 := n0_; have HB := n1_; have BK103 := n2_; have GW103 := n3_; have GE103 := n4_; have NB101_103 := n5_; have NB103_101 := n6_; clear n0_ n1_ n2_ n3_ n4_ n5_ n6_; clear hb hbox hg; have hnb36 := NB103_101.out; have hnc36 := NB101_103.out; have hcz37_0 : w35.cell? ⟨gb103, 0, none⟩ = some (.int .i64 0) := (blk_cell BK103.out 0).trans rfl; have hcz37_1 : w35.cell? ⟨gb103, 1, none⟩ = some (.int .i64 0) := (blk_cell BK103.out 1).trans rfl; have hcz37_2 : w35.cell? ⟨gb103, 2, none⟩ = some (.int .i64 0) := (blk_cell BK103.out 2).trans rfl; have hcz37_3 : w35.cell? ⟨gb103, 3, none⟩ = some (.int .i64 0) := (blk_cell BK103.out 3).trans rfl; have hfz37_0 := blk_frozen BK103.out 0; have hfz37_1 := blk_frozen BK103.out 1; have hfz37_2 := blk_frozen BK103.out 2; have hfz37_3 := blk_frozen BK103.out 3; have p107 : 0 ≤ (((rd_T115 l0_0 x5_1).f1) : Int) := of_decide_eq_true qz0_; have q107 : ((rd_T115 l0_0 x5_1).f1) < (l1.length : Int) := of_decide_eq_true qz0_; obtain ⟨ad107, e107, hx107_0⟩ := Kd.at_int HR1.out ((rd_T115 l0_0 x5_1).f1) p107 q107; cases e107; have hn107_0 : ad107.block ≠ gb103 := Nat.ne_of_lt (Nat.lt_of_lt_of_le qz17_ GW103.out); have hn107_1 : ad107.block ≠ gb103 := Nat.ne_of_lt (Nat.lt_of_lt_of_le qz17_ GW103.out); have hn107_2 : ad107.block ≠ gb103 := Nat.ne_of_lt (Nat.lt_of_lt_of_le qz17_ GW103.out); have hn107_3 : ad107.block ≠ gb103 := Nat.ne_of_lt (Nat.lt_of_lt_of_le qz17_ GW103.out); replace hx107_0 := (HB.out.cell (World.block_lt_of_cell? w _ hx107_0)).trans hx107_0; replace hx107_0 := (cell_far (p := ⟨gb103, 0, none⟩) qz18_ (.int .i64 ((rd_T115 l0_0 x5_1).f0))).trans hx107_0; replace hx107_0 := (cell_far (p := ⟨gb103, 1, none⟩) qz19_ (.int .i64 ((rd_T115 l0_0 x5_1).f1))).trans hx107_0; replace hx107_0 := (cell_far (p := ⟨gb103, 2, none⟩) qz20_ (.int .i64 ((rd_T115 l0_0 x5_1).f2))).trans hx107_0; replace hx107_0 := (cell_far (p := ⟨gb103, 3, none⟩) qz21_ (.int .i64 ((rd_T115 l0_0 x5_1).f3))).trans hx107_0; (try have hy107_0 := fun (n_ : Nat) => (show ((((((w35.drewN n_).setCell ⟨gb103, 0, none⟩ (.int .i64 ((rd_T115 l0_0 x5_1).f0))).setCell ⟨gb103, 1, none⟩ (.int .i64 ((rd_T115 l0_0 x5_1).f1))).setCell ⟨gb103, 2, none⟩ (.int .i64 ((rd_T115 l0_0 x5_1).f2))).setCell ⟨gb103, 3, none⟩ (.int .i64 ((rd_T115 l0_0 x5_1).f3)))).cell? _ = some _ from hx107_0)); clear hn107_0; clear hn107_1; clear hn107_2; clear hn107_3; replace p107 := eq_true p107; replace q107 := eq_true q107))
          repeat (go_quiet (first | ((with_reducible refine gate_dst (N := 6) rfl ?_); refine box_event ?hg (N := 6) ?hd (cs := #[.int .i64 0, .int .i64 0, .int .i64 0, .int .i64 0]) (t := 115) ?hr ?_; (case hd => rfl); (case hg => rfl); (case hr => first | (go_simp; done) | (go_simp; rfl)); intro gb103 hg w35 hbox hb; have n0_ := am_ (blk_below (g := gb101) (o := .cells #[.slice (some ad102) l0_0.length c0_0] 63 (0, 0)) qz11_ hb); have n1_ := am_ (below_step qz10_ hb); have n2_ := am_ (hbox); have n3_ := am_ ((by rw [hg]; exact (below_size qz10_) : w.heap.size ≤ gb103)); have n4_ := am_ ((by rw [hg]; exact (below_size qz10_) : w.heap.size ≤ gb103)); have n5_ := am_ ((by rw [hg]; exact Nat.ne_of_lt (blk_lt (g := gb101) (o := .cells #[.slice (some ad102) l0_0.length c0_0] 63 (0, 0)) qz11_) : gb101 ≠ gb103)); have n6_ := am_ ((by rw [hg]; exact Nat.ne_of_gt (blk_lt (g := gb101) (o := .cells #[.slice (some ad102) l0_0.length c0_0] 63 (0, 0)) qz11_) : gb103 ≠ gb101)); clear BK101; clear HB; have BK101 := n0_; have HB := n1_; have BK103 := n2_; have GW103 := n3_; have GE103 := n4_; have NB101_103 := n5_; have NB103_101 := n6_; clear n0_ n1_ n2_ n3_ n4_ n5_ n6_; clear hb hbox hg; have hnb36 := NB103_101.out; have hnc36 := NB101_103.out; have hcz37_0 : w35.cell? ⟨gb103, 0, none⟩ = some (.int .i64 0) := (blk_cell BK103.out 0).trans rfl; have hcz37_1 : w35.cell? ⟨gb103, 1, none⟩ = some (.int .i64 0) := (blk_cell BK103.out 1).trans rfl; have hcz37_2 : w35.cell? ⟨gb103, 2, none⟩ = some (.int .i64 0) := (blk_cell BK103.out 2).trans rfl; have hcz37_3 : w35.cell? ⟨gb103, 3, none⟩ = some (.int .i64 0) := (blk_cell BK103.out 3).trans rfl; have hfz37_0 := blk_frozen BK103.out 0; have hfz37_1 := blk_frozen BK103.out 1; have hfz37_2 := blk_frozen BK103.out 2; have hfz37_3 := blk_frozen BK103.out 3; have p107 : 0 ≤ (((rd_T115 l0_0 x5_1).f1) : Int) := of_decide_eq_true qz0_; have q107 : ((rd_T115 l0_0 x5_1).f1) < (l1.length : Int) := of_decide_eq_true qz0_; obtain ⟨ad107, e107, hx107_0⟩ := Kd.at_int HR1.out ((rd_T115 l0_0 x5_1).f1) p107 q107; cases e107; have hn107_0 : ad107.block ≠ gb103 := Nat.ne_of_lt (Nat.lt_of_lt_of_le qz17_ GW103.out); have hn107_1 : ad107.block ≠ gb103 := Nat.ne_of_lt (Nat.lt_of_lt_of_le qz17_ GW103.out); have hn107_2 : ad107.block ≠ gb103 := Nat.ne_of_lt (Nat.lt_of_lt_of_le qz17_ GW103.out); have hn107_3 : ad107.block ≠ gb103 := Nat.ne_of_lt (Nat.lt_of_lt_of_le qz17_ GW103.out); replace hx107_0 := (HB.out.cell (World.block_lt_of_cell? w _ hx107_0)).trans hx107_0; replace hx107_0 := (cell_far (p := ⟨gb103, 0, none⟩) qz18_ (.int .i64 ((rd_T115 l0_0 x5_1).f0))).trans hx107_0; replace hx107_0 := (cell_far (p := ⟨gb103, 1, none⟩) qz19_ (.int .i64 ((rd_T115 l0_0 x5_1).f1))).trans hx107_0; replace hx107_0 := (cell_far (p := ⟨gb103, 2, none⟩) qz20_ (.int .i64 ((rd_T115 l0_0 x5_1).f2))).trans hx107_0; replace hx107_0 := (cell_far (p := ⟨gb103, 3, none⟩) qz21_ (.int .i64 ((rd_T115 l0_0 x5_1).f3))).trans hx107_0; (try have hy107_0 := fun (n_ : Nat) => (show ((((((w35.drewN n_).setCell ⟨gb103, 0, none⟩ (.int .i64 ((rd_T115 l0_0 x5_1).f0))).setCell ⟨gb103, 1, none⟩ (.int .i64 ((rd_T115 l0_0 x5_1).f1))).setCell ⟨gb103, 2, none⟩ (.int .i64 ((rd_T115 l0_0 x5_1).f2))).setCell ⟨gb103, 3, none⟩ (.int .i64 ((rd_T115 l0_0 x5_1).f3)))).cell? _ = some _ from hx107_0)); clear hn107_0; clear hn107_1; clear hn107_2; clear hn107_3; replace p107 := eq_true p107; replace q107 := eq_true q107)); try go_wp2_with (first | ((with_reducible refine gate_dst (N := 6) rfl ?_); refine box_event ?hg (N := 6) ?hd (cs := #[.int .i64 0, .int .i64 0, .int .i64 0, .int .i64 0]) (t := 115) ?hr ?_; (case hd => rfl); (case hg => rfl); (case hr => first | (go_simp; done) | (go_simp; rfl)); intro gb103 hg w35 hbox hb; have n0_ := am_ (blk_below (g := gb101) (o := .cells #[.slice (some ad102) l0_0.length c0_0] 63 (0, 0)) qz11_ hb); have n1_ := am_ (below_step qz10_ hb); have n2_ := am_ (hbox); have n3_ := am_ ((by rw [hg]; exact (below_size qz10_) : w.heap.size ≤ gb103)); have n4_ := am_ ((by rw [hg]; exact (below_size qz10_) : w.heap.size ≤ gb103)); have n5_ := am_ ((by rw [hg]; exact Nat.ne_of_lt (blk_lt (g := gb101) (o := .cells #[.slice (some ad102) l0_0.length c0_0] 63 (0, 0)) qz11_) : gb101 ≠ gb103)); have n6_ := am_ ((by rw [hg]; exact Nat.ne_of_gt (blk_lt (g := gb101) (o := .cells #[.slice (some ad102) l0_0.length c0_0] 63 (0, 0)) qz11_) : gb103 ≠ gb101)); clear BK101; clear HB; have BK101 := n0_; have HB := n1_; have BK103 := n2_; have GW103 := n3_; have GE103 := n4_; have NB101_103 := n5_; have NB103_101 := n6_; clear n0_ n1_ n2_ n3_ n4_ n5_ n6_; clear hb hbox hg; have hnb36 := NB103_101.out; have hnc36 := NB101_103.out; have hcz37_0 : w35.cell? ⟨gb103, 0, none⟩ = some (.int .i64 0) := (blk_cell BK103.out 0).trans rfl; have hcz37_1 : w35.cell? ⟨gb103, 1, none⟩ = some (.int .i64 0) := (blk_cell BK103.out 1).trans rfl; have hcz37_2 : w35.cell? ⟨gb103, 2, none⟩ = some (.int .i64 0) := (blk_cell BK103.out 2).trans rfl; have hcz37_3 : w35.cell? ⟨gb103, 3, none⟩ = some (.int .i64 0) := (blk_cell BK103.out 3).trans rfl; have hfz37_0 := blk_frozen BK103.out 0; have hfz37_1 := blk_frozen BK103.out 1; have hfz37_2 := blk_frozen BK103.out 2; have hfz37_3 := blk_frozen BK103.out 3; have p107 : 0 ≤ (((rd_T115 l0_0 x5_1).f1) : Int) := of_decide_eq_true qz0_; have q107 : ((rd_T115 l0_0 x5_1).f1) < (l1.length : Int) := of_decide_eq_true qz0_; obtain ⟨ad107, e107, hx107_0⟩ := Kd.at_int HR1.out ((rd_T115 l0_0 x5_1).f1) p107 q107; cases e107; have hn107_0 : ad107.block ≠ gb103 := Nat.ne_of_lt (Nat.lt_of_lt_of_le qz17_ GW103.out); have hn107_1 : ad107.block ≠ gb103 := Nat.ne_of_lt (Nat.lt_of_lt_of_le qz17_ GW103.out); have hn107_2 : ad107.block ≠ gb103 := Nat.ne_of_lt (Nat.lt_of_lt_of_le qz17_ GW103.out); have hn107_3 : ad107.block ≠ gb103 := Nat.ne_of_lt (Nat.lt_of_lt_of_le qz17_ GW103.out); replace hx107_0 := (HB.out.cell (World.block_lt_of_cell? w _ hx107_0)).trans hx107_0; replace hx107_0 := (cell_far (p := ⟨gb103, 0, none⟩) qz18_ (.int .i64 ((rd_T115 l0_0 x5_1).f0))).trans hx107_0; replace hx107_0 := (cell_far (p := ⟨gb103, 1, none⟩) qz19_ (.int .i64 ((rd_T115 l0_0 x5_1).f1))).trans hx107_0; replace hx107_0 := (cell_far (p := ⟨gb103, 2, none⟩) qz20_ (.int .i64 ((rd_T115 l0_0 x5_1).f2))).trans hx107_0; replace hx107_0 := (cell_far (p := ⟨gb103, 3, none⟩) qz21_ (.int .i64 ((rd_T115 l0_0 x5_1).f3))).trans hx107_0; (try have hy107_0 := fun (n_ : Nat) => (show ((((((w35.drewN n_).setCell ⟨gb103, 0, none⟩ (.int .i64 ((rd_T115 l0_0 x5_1).f0))).setCell ⟨gb103, 1, none⟩ (.int .i64 ((rd_T115 l0_0 x5_1).f1))).setCell ⟨gb103, 2, none⟩ (.int .i64 ((rd_T115 l0_0 x5_1).f2))).setCell ⟨gb103, 3, none⟩ (.int .i64 ((rd_T115 l0_0 x5_1).f3)))).cell? _ = some _ from hx107_0)); clear hn107_0; clear hn107_1; clear hn107_2; clear hn107_3; replace p107 := eq_true p107; replace q107 := eq_true q107)))
          go_ret
          exact ⟨qz5_, qz52_⟩
         ·
          rw [if_neg c33] at H
          have c33b0 : decide (1 < (rd l1 ((rd_T115 l0_0 x5_1).f1))) = false := decide_eq_false c33
          clear c33
          have H' := am_ H
          clear H
          have hcz38_0 : wr.cell? ⟨gb101, 0, none⟩ = some (.slice A0_0 l0_0.length c0_0) := (blk_cell BK101.out 0).trans rfl
          have hfz38_0 := blk_frozen BK101.out 0
          have p102 : 0 ≤ (x5_1 : Int) := of_decide_eq_true qz0_
          have q102 : x5_1 < (l0_0.length : Int) := of_decide_eq_true qz0_
          obtain ⟨ad102, e102, hx102_0, hx102_1, hx102_2, hx102_3⟩ := at_T115 HR0_0.out x5_1 p102 q102
          cases e102
          replace hx102_0 := (HB.out.cell (World.block_lt_of_cell? w _ hx102_0)).trans hx102_0
          replace hx102_1 := (HB.out.cell (World.block_lt_of_cell? w _ hx102_1)).trans hx102_1
          replace hx102_2 := (HB.out.cell (World.block_lt_of_cell? w _ hx102_2)).trans hx102_2
          replace hx102_3 := (HB.out.cell (World.block_lt_of_cell? w _ hx102_3)).trans hx102_3
          replace p102 := eq_true p102
          replace q102 := eq_true q102
          go_wp2_with (first | ((with_reducible refine gate_dst (N := 6) rfl ?_); refine box_event ?hg (N := 6) ?hd (cs := #[.int .i64 0, .int .i64 0, .int .i64 0, .int .i64 0]) (t := 115) ?hr ?_; (case hd => rfl); (case hg => rfl); (case hr => first | (go_simp; done) | (go_simp; rfl)); intro gb103 hg w39 hbox hb; have n0_ := am_ (blk_below (g := gb101) (o := .cells #[.slice (some ad102) l0_0.length c0_0] 63 (0, 0)) qz11_ hb); have n1_ := am_ (below_step qz10_ hb); have n2_ := am_ (hbox); have n3_ := am_ ((by rw [hg]; exact (below_size qz10_) : w.heap.size ≤ gb103)); have n4_ := am_ ((by rw [hg]; exact (below_size qz10_) : w.heap.size ≤ gb103)); have n5_ := am_ ((by rw [hg]; exact Nat.ne_of_lt (blk_lt (g := gb101) (o := .cells #[.slice (some ad102) l0_0.length c0_0] 63 (0, 0)) qz11_) : gb101 ≠ gb103)); have n6_ := am_ ((by rw [hg]; exact Nat.ne_of_gt (blk_lt (g := gb101) (o := .cells #[.slice (some ad102) l0_0.length c0_0] 63 (0, 0)) qz11_) : gb103 ≠ gb101)); clear BK101; clear HB; have BK101 := n0_; have HB := n1_; have BK103 := n2_; have GW103 := n3_; have GE103 := n4_; have NB101_103 := n5_; have NB103_101 := n6_; clear n0_ n1_ n2_ n3_ n4_ n5_ n6_; clear hb hbox hg; have hnb40 := NB103_101.out; have hnc40 := NB101_103.out; have hcz41_0 : w39.cell? ⟨gb103, 0, none⟩ = some (.int .i64 0) := (blk_cell BK103.out 0).trans rfl; have hcz41_1 : w39.cell? ⟨gb103, 1, none⟩ = some (.int .i64 0) := (blk_cell BK103.out 1).trans rfl; have hcz41_2 : w39.cell? ⟨gb103, 2, none⟩ = some (.int .i64 0) := (blk_cell BK103.out 2).trans rfl; have hcz41_3 : w39.cell? ⟨gb103, 3, none⟩ = some (.int .i64 0) := (blk_cell BK103.out 3).trans rfl; have hfz41_0 := blk_frozen BK103.out 0; have hfz41_1 := blk_frozen BK103.out 1; have hfz41_2 := blk_frozen BK103.out 2; have hfz41_3 := blk_frozen BK103.out 3; have p107 : 0 ≤ (((rd_T115 l0_0 x5_1).f1) : Int) := of_decide_eq_true qz0_; have q107 : ((rd_T115 l0_0 x5_1).f1) < (l1.length : Int) := of_decide_eq_true qz0_; obtain ⟨ad107, e107, hx107_0⟩ := Kd.at_int HR1.out ((rd_T115 l0_0 x5_1).f1) p107 q107; cases e107; have hn107_0 : ad107.block ≠ gb103 := Nat.ne_of_lt (Nat.lt_of_lt_of_le qz17_ GW103.out); have hn107_1 : ad107.block ≠ gb103 := Nat.ne_of_lt (Nat.lt_of_lt_of_le qz17_ GW103.out); have hn107_2 : ad107.block ≠ gb103 := Nat.ne_of_lt (Nat.lt_of_lt_of_le qz17_ GW103.out); have hn107_3 : ad107.block ≠ gb103 := Nat.ne_of_lt (Nat.lt_of_lt_of_le qz17_ GW103.out); replace hx107_0 := (HB.out.cell (World.block_lt_of_cell? w _ hx107_0)).trans hx107_0; replace hx107_0 := (cell_far (p := ⟨gb103, 0, none⟩) qz18_ (.int .i64 ((rd_T115 l0_0 x5_1).f0))).trans hx107_0; replace hx107_0 := (cell_far (p := ⟨gb103, 1, none⟩) qz19_ (.int .i64 ((rd_T115 l0_0 x5_1).f1))).trans hx107_0; replace hx107_0 := (cell_far (p := ⟨gb103, 2, none⟩) qz20_ (.int .i64 ((rd_T115 l0_0 x5_1).f2))).trans hx107_0; replace hx107_0 := (cell_far (p := ⟨gb103, 3, none⟩) qz21_ (.int .i64 ((rd_T115 l0_0 x5_1).f3))).trans hx107_0; (try have hy107_0 := fun (n_ : Nat) => (show ((((((w39.drewN n_).setCell ⟨gb103, 0, none⟩ (.int .i64 ((rd_T115 l0_0 x5_1).f0))).setCell ⟨gb103, 1, none⟩ (.int .i64 ((rd_T115 l0_0 x5_1).f1))).setCell ⟨gb103, 2, none⟩ (.int .i64 ((rd_T115 l0_0 x5_1).f2))).setCell ⟨gb103, 3, none⟩ (.int .i64 ((rd_T115 l0_0 x5_1).f3)))).cell? _ = some _ from hx107_0)); clear hn107_0; clear hn107_1; clear hn107_2; clear hn107_3; replace p107 := eq_true p107; replace q107 := eq_true q107))
          repeat (go_quiet (first | ((with_reducible refine gate_dst (N := 6) rfl ?_); refine box_event ?hg (N := 6) ?hd (cs := #[.int .i64 0, .int .i64 0, .int .i64 0, .int .i64 0]) (t := 115) ?hr ?_; (case hd => rfl); (case hg => rfl); (case hr => first | (go_simp; done) | (go_simp; rfl)); intro gb103 hg w39 hbox hb; have n0_ := am_ (blk_below (g := gb101) (o := .cells #[.slice (some ad102) l0_0.length c0_0] 63 (0, 0)) qz11_ hb); have n1_ := am_ (below_step qz10_ hb); have n2_ := am_ (hbox); have n3_ := am_ ((by rw [hg]; exact (below_size qz10_) : w.heap.size ≤ gb103)); have n4_ := am_ ((by rw [hg]; exact (below_size qz10_) : w.heap.size ≤ gb103)); have n5_ := am_ ((by rw [hg]; exact Nat.ne_of_lt (blk_lt (g := gb101) (o := .cells #[.slice (some ad102) l0_0.length c0_0] 63 (0, 0)) qz11_) : gb101 ≠ gb103)); have n6_ := am_ ((by rw [hg]; exact Nat.ne_of_gt (blk_lt (g := gb101) (o := .cells #[.slice (some ad102) l0_0.length c0_0] 63 (0, 0)) qz11_) : gb103 ≠ gb101)); clear BK101; clear HB; have BK101 := n0_; have HB := n1_; have BK103 := n2_; have GW103 := n3_; have GE103 := n4_; have NB101_103 := n5_; have NB103_101 := n6_; clear n0_ n1_ n2_ n3_ n4_ n5_ n6_; clear hb hbox hg; have hnb40 := NB103_101.out; have hnc40 := NB101_103.out; have hcz41_0 : w39.cell? ⟨gb103, 0, none⟩ = some (.int .i64 0) := (blk_cell BK103.out 0).trans rfl; have hcz41_1 : w39.cell? ⟨gb103, 1, none⟩ = some (.int .i64 0) := (blk_cell BK103.out 1).trans rfl; have hcz41_2 : w39.cell? ⟨gb103, 2, none⟩ = some (.int .i64 0) := (blk_cell BK103.out 2).trans rfl; have hcz41_3 : w39.cell? ⟨gb103, 3, none⟩ = some (.int .i64 0) := (blk_cell BK103.out 3).trans rfl; have hfz41_0 := blk_frozen BK103.out 0; have hfz41_1 := blk_frozen BK103.out 1; have hfz41_2 := blk_frozen BK103.out 2; have hfz41_3 := blk_frozen BK103.out 3; have p107 : 0 ≤ (((rd_T115 l0_0 x5_1).f1) : Int) := of_decide_eq_true qz0_; have q107 : ((rd_T115 l0_0 x5_1).f1) < (l1.length : Int) := of_decide_eq_true qz0_; obtain ⟨ad107, e107, hx107_0⟩ := Kd.at_int HR1.out ((rd_T115 l0_0 x5_1).f1) p107 q107; cases e107; have hn107_0 : ad107.block ≠ gb103 := Nat.ne_of_lt (Nat.lt_of_lt_of_le qz17_ GW103.out); have hn107_1 : ad107.block ≠ gb103 := Nat.ne_of_lt (Nat.lt_of_lt_of_le qz17_ GW103.out); have hn107_2 : ad107.block ≠ gb103 := Nat.ne_of_lt (Nat.lt_of_lt_of_le qz17_ GW103.out); have hn107_3 : ad107.block ≠ gb103 := Nat.ne_of_lt (Nat.lt_of_lt_of_le qz17_ GW103.out); replace hx107_0 := (HB.out.cell (World.block_lt_of_cell? w _ hx107_0)).trans hx107_0; replace hx107_0 := (cell_far (p := ⟨gb103, 0, none⟩) qz18_ (.int .i64 ((rd_T115 l0_0 x5_1).f0))).trans hx107_0; replace hx107_0 := (cell_far (p := ⟨gb103, 1, none⟩) qz19_ (.int .i64 ((rd_T115 l0_0 x5_1).f1))).trans hx107_0; replace hx107_0 := (cell_far (p := ⟨gb103, 2, none⟩) qz20_ (.int .i64 ((rd_T115 l0_0 x5_1).f2))).trans hx107_0; replace hx107_0 := (cell_far (p := ⟨gb103, 3, none⟩) qz21_ (.int .i64 ((rd_T115 l0_0 x5_1).f3))).trans hx107_0; (try have hy107_0 := fun (n_ : Nat) => (show ((((((w39.drewN n_).setCell ⟨gb103, 0, none⟩ (.int .i64 ((rd_T115 l0_0 x5_1).f0))).setCell ⟨gb103, 1, none⟩ (.int .i64 ((rd_T115 l0_0 x5_1).f1))).setCell ⟨gb103, 2, none⟩ (.int .i64 ((rd_T115 l0_0 x5_1).f2))).setCell ⟨gb103, 3, none⟩ (.int .i64 ((rd_T115 l0_0 x5_1).f3)))).cell? _ = some _ from hx107_0)); clear hn107_0; clear hn107_1; clear hn107_2; clear hn107_3; replace p107 := eq_true p107; replace q107 := eq_true q107)); try go_wp2_with (first | ((with_reducible refine gate_dst (N := 6) rfl ?_); refine box_event ?hg (N := 6) ?hd (cs := #[.int .i64 0, .int .i64 0, .int .i64 0, .int .i64 0]) (t := 115) ?hr ?_; (case hd => rfl); (case hg => rfl); (case hr => first | (go_simp; done) | (go_simp; rfl)); intro gb103 hg w39 hbox hb; have n0_ := am_ (blk_below (g := gb101) (o := .cells #[.slice (some ad102) l0_0.length c0_0] 63 (0, 0)) qz11_ hb); have n1_ := am_ (below_step qz10_ hb); have n2_ := am_ (hbox); have n3_ := am_ ((by rw [hg]; exact (below_size qz10_) : w.heap.size ≤ gb103)); have n4_ := am_ ((by rw [hg]; exact (below_size qz10_) : w.heap.size ≤ gb103)); have n5_ := am_ ((by rw [hg]; exact Nat.ne_of_lt (blk_lt (g := gb101) (o := .cells #[.slice (some ad102) l0_0.length c0_0] 63 (0, 0)) qz11_) : gb101 ≠ gb103)); have n6_ := am_ ((by rw [hg]; exact Nat.ne_of_gt (blk_lt (g := gb101) (o := .cells #[.slice (some ad102) l0_0.length c0_0] 63 (0, 0)) qz11_) : gb103 ≠ gb101)); clear BK101; clear HB; have BK101 := n0_; have HB := n1_; have BK103 := n2_; have GW103 := n3_; have GE103 := n4_; have NB101_103 := n5_; have NB103_101 := n6_; clear n0_ n1_ n2_ n3_ n4_ n5_ n6_; clear hb hbox hg; have hnb40 := NB103_101.out; have hnc40 := NB101_103.out; have hcz41_0 : w39.cell? ⟨gb103, 0, none⟩ = some (.int .i64 0) := (blk_cell BK103.out 0).trans rfl; have hcz41_1 : w39.cell? ⟨gb103, 1, none⟩ = some (.int .i64 0) := (blk_cell BK103.out 1).trans rfl; have hcz41_2 : w39.cell? ⟨gb103, 2, none⟩ = some (.int .i64 0) := (blk_cell BK103.out 2).trans rfl; have hcz41_3 : w39.cell? ⟨gb103, 3, none⟩ = some (.int .i64 0) := (blk_cell BK103.out 3).trans rfl; have hfz41_0 := blk_frozen BK103.out 0; have hfz41_1 := blk_frozen BK103.out 1; have hfz41_2 := blk_frozen BK103.out 2; have hfz41_3 := blk_frozen BK103.out 3; have p107 : 0 ≤ (((rd_T115 l0_0 x5_1).f1) : Int) := of_decide_eq_true qz0_; have q107 : ((rd_T115 l0_0 x5_1).f1) < (l1.length : Int) := of_decide_eq_true qz0_; obtain ⟨ad107, e107, hx107_0⟩ := Kd.at_int HR1.out ((rd_T115 l0_0 x5_1).f1) p107 q107; cases e107; have hn107_0 : ad107.block ≠ gb103 := Nat.ne_of_lt (Nat.lt_of_lt_of_le qz17_ GW103.out); have hn107_1 : ad107.block ≠ gb103 := Nat.ne_of_lt (Nat.lt_of_lt_of_le qz17_ GW103.out); have hn107_2 : ad107.block ≠ gb103 := Nat.ne_of_lt (Nat.lt_of_lt_of_le qz17_ GW103.out); have hn107_3 : ad107.block ≠ gb103 := Nat.ne_of_lt (Nat.lt_of_lt_of_le qz17_ GW103.out); replace hx107_0 := (HB.out.cell (World.block_lt_of_cell? w _ hx107_0)).trans hx107_0; replace hx107_0 := (cell_far (p := ⟨gb103, 0, none⟩) qz18_ (.int .i64 ((rd_T115 l0_0 x5_1).f0))).trans hx107_0; replace hx107_0 := (cell_far (p := ⟨gb103, 1, none⟩) qz19_ (.int .i64 ((rd_T115 l0_0 x5_1).f1))).trans hx107_0; replace hx107_0 := (cell_far (p := ⟨gb103, 2, none⟩) qz20_ (.int .i64 ((rd_T115 l0_0 x5_1).f2))).trans hx107_0; replace hx107_0 := (cell_far (p := ⟨gb103, 3, none⟩) qz21_ (.int .i64 ((rd_T115 l0_0 x5_1).f3))).trans hx107_0; (try have hy107_0 := fun (n_ : Nat) => (show ((((((w39.drewN n_).setCell ⟨gb103, 0, none⟩ (.int .i64 ((rd_T115 l0_0 x5_1).f0))).setCell ⟨gb103, 1, none⟩ (.int .i64 ((rd_T115 l0_0 x5_1).f1))).setCell ⟨gb103, 2, none⟩ (.int .i64 ((rd_T115 l0_0 x5_1).f2))).setCell ⟨gb103, 3, none⟩ (.int .i64 ((rd_T115 l0_0 x5_1).f3)))).cell? _ = some _ from hx107_0)); clear hn107_0; clear hn107_1; clear hn107_2; clear hn107_3; replace p107 := eq_true p107; replace q107 := eq_true q107)))
          go_roundg k1
          case measure => have := HK1.out; omega
          case rel => exact ⟨(wrap64 (x5_1 + 1)), qz2_, H', ⟨qz3_⟩, ⟨qz53_⟩, ⟨qz52_⟩⟩
        ·
         rw [if_neg c32] at H
         exact absurd H (by simp)
       ·
        rw [if_neg c31] at H
        exact absurd H (by simp)
      ·
       rw [if_neg c30] at H
       have c30b0 : (((rd_T115 l0_0 x5_1).f0) == 8) = false := beq_eq_false_iff_ne.mpr c30
       have c30b1 : (((rd_T115 l0_0 x5_1).f0) != 8) = true := bne_iff_ne.mpr c30
       have H' := am_ H
       clear H
       have hcz42_0 : wr.cell? ⟨gb101, 0, none⟩ = some (.slice A0_0 l0_0.length c0_0) := (blk_cell BK101.out 0).trans rfl
       have hfz42_0 := blk_frozen BK101.out 0
       have p102 : 0 ≤ (x5_1 : Int) := of_decide_eq_true qz0_
       have q102 : x5_1 < (l0_0.length : Int) := of_decide_eq_true qz0_
       obtain ⟨ad102, e102, hx102_0, hx102_1, hx102_2, hx102_3⟩ := at_T115 HR0_0.out x5_1 p102 q102
       cases e102
       replace hx102_0 := (HB.out.cell (World.block_lt_of_cell? w _ hx102_0)).trans hx102_0
       replace hx102_1 := (HB.out.cell (World.block_lt_of_cell? w _ hx102_1)).trans hx102_1
       replace hx102_2 := (HB.out.cell (World.block_lt_of_cell? w _ hx102_2)).trans hx102_2
       replace hx102_3 := (HB.out.cell (World.block_lt_of_cell? w _ hx102_3)).trans hx102_3
       replace p102 := eq_true p102
       replace q102 := eq_true q102
       go_wp2_with (first | ((with_reducible refine gate_dst (N := 6) rfl ?_); refine box_event ?hg (N := 6) ?hd (cs := #[.int .i64 0, .int .i64 0, .int .i64 0, .int .i64 0]) (t := 115) ?hr ?_; (case hd => rfl); (case hg => rfl); (case hr => first | (go_simp; done) | (go_simp; rfl)); intro gb103 hg w43 hbox hb; have n0_ := am_ (blk_below (g := gb101) (o := .cells #[.slice (some ad102) l0_0.length c0_0] 63 (0, 0)) qz11_ hb); have n1_ := am_ (below_step qz10_ hb); have n2_ := am_ (hbox); have n3_ := am_ ((by rw [hg]; exact (below_size qz10_) : w.heap.size ≤ gb103)); have n4_ := am_ ((by rw [hg]; exact (below_size qz10_) : w.heap.size ≤ gb103)); have n5_ := am_ ((by rw [hg]; exact Nat.ne_of_lt (blk_lt (g := gb101) (o := .cells #[.slice (some ad102) l0_0.length c0_0] 63 (0, 0)) qz11_) : gb101 ≠ gb103)); have n6_ := am_ ((by rw [hg]; exact Nat.ne_of_gt (blk_lt (g := gb101) (o := .cells #[.slice (some ad102) l0_0.length c0_0] 63 (0, 0)) qz11_) : gb103 ≠ gb101)); clear BK101; clear HB; have BK101 := n0_; have HB := n1_; have BK103 := n2_; have GW103 := n3_; have GE103 := n4_; have NB101_103 := n5_; have NB103_101 := n6_; clear n0_ n1_ n2_ n3_ n4_ n5_ n6_; clear hb hbox hg; have hnb44 := NB103_101.out; have hnc44 := NB101_103.out; have hcz45_0 : w43.cell? ⟨gb103, 0, none⟩ = some (.int .i64 0) := (blk_cell BK103.out 0).trans rfl; have hcz45_1 : w43.cell? ⟨gb103, 1, none⟩ = some (.int .i64 0) := (blk_cell BK103.out 1).trans rfl; have hcz45_2 : w43.cell? ⟨gb103, 2, none⟩ = some (.int .i64 0) := (blk_cell BK103.out 2).trans rfl; have hcz45_3 : w43.cell? ⟨gb103, 3, none⟩ = some (.int .i64 0) := (blk_cell BK103.out 3).trans rfl; have hfz45_0 := blk_frozen BK103.out 0; have hfz45_1 := blk_frozen BK103.out 1; have hfz45_2 := blk_frozen BK103.out 2; have hfz45_3 := blk_frozen BK103.out 3))
       repeat (go_quiet (first | ((with_reducible refine gate_dst (N := 6) rfl ?_); refine box_event ?hg (N := 6) ?hd (cs := #[.int .i64 0, .int .i64 0, .int .i64 0, .int .i64 0]) (t := 115) ?hr ?_; (case hd => rfl); (case hg => rfl); (case hr => first | (go_simp; done) | (go_simp; rfl)); intro gb103 hg w43 hbox hb; have n0_ := am_ (blk_below (g := gb101) (o := .cells #[.slice (some ad102) l0_0.length c0_0] 63 (0, 0)) qz11_ hb); have n1_ := am_ (below_step qz10_ hb); have n2_ := am_ (hbox); have n3_ := am_ ((by rw [hg]; exact (below_size qz10_) : w.heap.size ≤ gb103)); have n4_ := am_ ((by rw [hg]; exact (below_size qz10_) : w.heap.size ≤ gb103)); have n5_ := am_ ((by rw [hg]; exact Nat.ne_of_lt (blk_lt (g := gb101) (o := .cells #[.slice (some ad102) l0_0.length c0_0] 63 (0, 0)) qz11_) : gb101 ≠ gb103)); have n6_ := am_ ((by rw [hg]; exact Nat.ne_of_gt (blk_lt (g := gb101) (o := .cells #[.slice (some ad102) l0_0.length c0_0] 63 (0, 0)) qz11_) : gb103 ≠ gb101)); clear BK101; clear HB; have BK101 := n0_; have HB := n1_; have BK103 := n2_; have GW103 := n3_; have GE103 := n4_; have NB101_103 := n5_; have NB103_101 := n6_; clear n0_ n1_ n2_ n3_ n4_ n5_ n6_; clear hb hbox hg; have hnb44 := NB103_101.out; have hnc44 := NB101_103.out; have hcz45_0 : w43.cell? ⟨gb103, 0, none⟩ = some (.int .i64 0) := (blk_cell BK103.out 0).trans rfl; have hcz45_1 : w43.cell? ⟨gb103, 1, none⟩ = some (.int .i64 0) := (blk_cell BK103.out 1).trans rfl; have hcz45_2 : w43.cell? ⟨gb103, 2, none⟩ = some (.int .i64 0) := (blk_cell BK103.out 2).trans rfl; have hcz45_3 : w43.cell? ⟨gb103, 3, none⟩ = some (.int .i64 0) := (blk_cell BK103.out 3).trans rfl; have hfz45_0 := blk_frozen BK103.out 0; have hfz45_1 := blk_frozen BK103.out 1; have hfz45_2 := blk_frozen BK103.out 2; have hfz45_3 := blk_frozen BK103.out 3)); try go_wp2_with (first | ((with_reducible refine gate_dst (N := 6) rfl ?_); refine box_event ?hg (N := 6) ?hd (cs := #[.int .i64 0, .int .i64 0, .int .i64 0, .int .i64 0]) (t := 115) ?hr ?_; (case hd => rfl); (case hg => rfl); (case hr => first | (go_simp; done) | (go_simp; rfl)); intro gb103 hg w43 hbox hb; have n0_ := am_ (blk_below (g := gb101) (o := .cells #[.slice (some ad102) l0_0.length c0_0] 63 (0, 0)) qz11_ hb); have n1_ := am_ (below_step qz10_ hb); have n2_ := am_ (hbox); have n3_ := am_ ((by rw [hg]; exact (below_size qz10_) : w.heap.size ≤ gb103)); have n4_ := am_ ((by rw [hg]; exact (below_size qz10_) : w.heap.size ≤ gb103)); have n5_ := am_ ((by rw [hg]; exact Nat.ne_of_lt (blk_lt (g := gb101) (o := .cells #[.slice (some ad102) l0_0.length c0_0] 63 (0, 0)) qz11_) : gb101 ≠ gb103)); have n6_ := am_ ((by rw [hg]; exact Nat.ne_of_gt (blk_lt (g := gb101) (o := .cells #[.slice (some ad102) l0_0.length c0_0] 63 (0, 0)) qz11_) : gb103 ≠ gb101)); clear BK101; clear HB; have BK101 := n0_; have HB := n1_; have BK103 := n2_; have GW103 := n3_; have GE103 := n4_; have NB101_103 := n5_; have NB103_101 := n6_; clear n0_ n1_ n2_ n3_ n4_ n5_ n6_; clear hb hbox hg; have hnb44 := NB103_101.out; have hnc44 := NB101_103.out; have hcz45_0 : w43.cell? ⟨gb103, 0, none⟩ = some (.int .i64 0) := (blk_cell BK103.out 0).trans rfl; have hcz45_1 : w43.cell? ⟨gb103, 1, none⟩ = some (.int .i64 0) := (blk_cell BK103.out 1).trans rfl; have hcz45_2 : w43.cell? ⟨gb103, 2, none⟩ = some (.int .i64 0) := (blk_cell BK103.out 2).trans rfl; have hcz45_3 : w43.cell? ⟨gb103, 3, none⟩ = some (.int .i64 0) := (blk_cell BK103.out 3).trans rfl; have hfz45_0 := blk_frozen BK103.out 0; have hfz45_1 := blk_frozen BK103.out 1; have hfz45_2 := blk_frozen BK103.out 2; have hfz45_3 := blk_frozen BK103.out 3)))
       go_roundg k1
       case measure => have := HK1.out; omega
       case rel => exact ⟨(wrap64 (x5_1 + 1)), qz2_, H', ⟨qz3_⟩, ⟨qz53_⟩, ⟨qz52_⟩⟩
    ·
     rw [if_neg c5] at H
     exact absurd H (by simp)
   ·
    rw [if_neg c4] at H
    have c4b0 : decide (x5_1 < (l0_0.length : Int)) = false := decide_eq_false c4
    clear c4
    obtain rfl := Option.some.inj H
    have hcz46_0 : wr.cell? ⟨gb101, 0, none⟩ = some (.slice A0_0 l0_0.length c0_0) := (blk_cell BK101.out 0).trans rfl
    have hfz46_0 := blk_frozen BK101.out 0
    go_wp2
    repeat (go_quiet (fail); try go_wp2)
    go_ret
    exact ⟨qz5_, qz10_⟩

end Go.Proofs.Ytekijbcblajjbaa.PT
end
section
namespace Go.Proofs.Ytekijbcblajjbaa.PT
open Go.RowKit Go.Proofs.YtekijbcblajjbaaW.PrintWords Go.Proofs.YtekijbcblajjbaaW.PrintLast Go.Proofs.YtekijbcblajjbaaW.PrintMore
attribute [local go_sem] max2_int min2_int max_two min_two max_three min_three max_four min_four   -- for this text's walks alone
set_option linter.unusedVariables false
set_option linter.unusedSimpArgs false

/-! ### spec_l11Privates: function 77 -/
def spec_l11Privates.l0 : Nat → List Int → List Int → Int → List (S115) → Option (List Int)
 | 0, _, _, _, _ => none
 | k + 1, x1, x5, x6, x102000 => if x6 < (x102000.length : Int) then (if 0 ≤ x6 then (if ((rd_T115 x102000 x6).f0) = 2 then (spec_l11Privates.l0 k x1 x5 (wrap64 (x6 + 1)) x102000) else (if x6 < (x1.length : Int) then (if x5.length < 17592186044416 then (spec_l11Privates.l0 k x1 (x5 ++ [rd x1 x6]) (wrap64 (x6 + 1)) x102000) else (none)) else (none))) else (none)) else (some x5)
def spec_l11Privates.f (k : Nat) (l0_0 : List (S115)) (l1 : List Int) : Option (List Int) := spec_l11Privates.l0 k l1 (([] : List Int)) 0 l0_0
theorem spec_l11Privates.mono_l : ∀ k, (∀ y0 y1 y2 y3, LeO (spec_l11Privates.l0 k y0 y1 y2 y3) (spec_l11Privates.l0 (k + 1) y0 y1 y2 y3))
 | 0 => fun _ _ _ _ r h => by simp [spec_l11Privates.l0] at h
 | k + 1 => by
  have ih0 := spec_l11Privates.mono_l k
  ·
   intro y0 y1 y2 y3
   unfold spec_l11Privates.l0
   repeat' first
   | (with_reducible exact ih0 _ _ _ _)
   | (with_reducible exact LeO.refl _)
   | (with_reducible exact LeO.none _)
   | (with_reducible refine LeO.ite ?_ ?_)
   | (with_reducible refine LeO.bind ?_ (fun _ => ?_))
   | exact ih0 _ _ _ _
   | exact LeO.none _
   | refine LeO.ite ?_ ?_
   | refine LeO.bind ?_ (fun _ => ?_)
theorem spec_l11Privates.mono : ∀ a0 a1 k, LeO (spec_l11Privates.f k a0 a1) (spec_l11Privates.f (k + 1) a0 a1) := by
 intro a0 a1 k
 have ih0 := spec_l11Privates.mono_l k
 unfold spec_l11Privates.f
 repeat' first
   | (with_reducible exact ih0 _ _ _ _)
   | (with_reducible exact LeO.refl _)
   | (with_reducible exact LeO.none _)
   | (with_reducible refine LeO.ite ?_ ?_)
   | (with_reducible refine LeO.bind ?_ (fun _ => ?_))
   | exact ih0 _ _ _ _
   | exact LeO.none _
   | refine LeO.ite ?_ ?_
   | refine LeO.bind ?_ (fun _ => ?_)
set_option maxHeartbeats 8000000 in
set_option maxRecDepth 100000 in
theorem spec_l11Privates.calls (k : Nat) (A0_0 : Option Addr) (c0_0 : Nat) (l0_0 : List (S115)) (A1 : Option Addr) (c1 : Nat) (l1 : List Int) (r : List Int) (w : World) (hr0_0 : Kd.C k115 w A0_0 l0_0.length l0_0) (hc0_0 : l0_0.length ≤ c0_0) (hr1 : Kd.C (Kd.int .i64) w A1 l1.length l1) (hc1 : l1.length ≤ c1) (h : spec_l11Privates.f k l0_0 l1 = some r) :
  Calls Try.prog 77 #[.agg #[.slice A0_0 l0_0.length c0_0], .slice A1 l1.length c1] w fun e w' => ∃ v0_ : Value, e = .returned (v0_) ∧ Kd.R (Kd.int .i64) 3 w' w.heap.size (fun _ => True) v0_ r ∧ Below w.heap.size w w' := by
 have hu63 := Try.underlying63
 have HR0_0 := am_ hr0_0
 have HC0_0 := am_ hc0_0
 clear hr0_0 hc0_0
 have HR1 := am_ hr1
 have HC1 := am_ hc1
 clear hr1 hc1
 have HB := am_ (Below.refl w.heap.size w)
 have H : (spec_l11Privates.l0 k l1 (([] : List Int)) 0 l0_0) = some r := h
 clear h
 obtain ⟨y102, hy102⟩ : ∃ y_ : List Int, y_ = (([] : List Int)) := ⟨_, rfl⟩
 replace H : (spec_l11Privates.l0 k l1 y102 0 l0_0) = some r := by first | (rw [hy102]; with_reducible exact H) | (have H2_ := (Option.bind_some _ _).symm.trans H; rw [hy102]; with_reducible exact H2_) | (have H2_ := (Option.bind_some _ _).symm.trans H; with_reducible exact H2_) | with_reducible exact H | (rw [hy102]; exact H) | exact H
 have Ny102 := am_ hy102
 clear hy102
 have H' := am_ H
 clear H
 go_enter Try.func77, Try.ntmps77
 go_wp2_with (first | ((with_reducible refine gate_dst (N := 2) rfl ?_); refine box_event ?hg (N := 2) ?hd (cs := #[.slice A0_0 l0_0.length c0_0]) (t := 63) ?hr ?_; (case hd => rfl); (case hg => rfl); (case hr => first | (go_simp; done) | (go_simp; rfl)); intro gb101 hg w3 hbox hb; have n0_ := am_ (below_step qz1_ hb); have n1_ := am_ (hbox); have n2_ := am_ ((by rw [hg]; exact (below_size qz1_) : w.heap.size ≤ gb101)); have n3_ := am_ ((by rw [hg]; exact (below_size qz1_) : w.heap.size ≤ gb101)); clear HB; have HB := n0_; have BK101 := n1_; have GW101 := n2_; have GE101 := n3_; clear n0_ n1_ n2_ n3_; clear hb hbox hg) | ((with_reducible refine gate_dst (N := 7) rfl ?_); refine Kd.R_lit (Kd.int .i64) _ 3 ?hg (N := 7) ?hd (xs := ([] : List Int)) (inner := []) (ok := fun _ => True) (okp := fun _ => True) ?hr ?hp (fun _ hk => hk) trivial (Below.refl _ _) (Nat.le_refl _) (by simp) ?_; (case hd => rfl); (case hg => rfl); (case hr => first | (go_simp; done) | (go_simp; rfl)); (case hp => exact (Reps.none _ _)); intro v103 w4 ho5 hb hg_ hnew_; clear hg_ hnew_; (first | rw [← Ny102.out] at ho5 | (simp only [Int.reduceToNat] at ho5; rw [← Ny102.out] at ho5)); have n0_ := am_ (Kd.R_lower ho5 (below_size qz10_)); have n1_ := am_ (blk_below (g := gb101) (o := .cells #[.slice A0_0 l0_0.length c0_0] 63 (0, 0)) qz11_ hb); have n2_ := am_ (below_step qz10_ hb); clear BK101; clear HB; have HO104 := n0_; have BK101 := n1_; have HB := n2_; clear n0_ n1_ n2_; clear hb ho5))
 go_loopg [5, 6] k (fun kq v5 v6 w' => ∃ (x5_1 : List Int) (x6_1 : Int), v6 = .int .i64 x6_1 ∧ Aside0 (spec_l11Privates.l0 kq l1 x5_1 x6_1 l0_0 = some r) ∧ Aside0 (kq ≤ k) ∧ Aside0 (Kd.R (Kd.int .i64) 3 w' w.heap.size (fun _ => True) v5 x5_1) ∧ Aside0 (w'.heap[gb101]? = some (.cells #[(.slice A0_0 l0_0.length c0_0)] 63 (0, 0))) ∧ Aside0 (Below w.heap.size w w'))
 case atStart => exact ⟨(y102), (0), qz2_, H', ⟨Nat.le_refl _⟩, ⟨qz15_⟩, ⟨qz11_⟩, ⟨qz10_⟩⟩
 case round =>
  clear H'
  try clear c1
  try clear p2
  obtain ⟨x5_1, x6_1, rfl, HA, HK1, HO_5, BK101, HB⟩ := hrel
  cases gk with
  | zero => exact absurd HA.out (by simp [spec_l11Privates.l0])
  | succ k1 =>
   have H := HA.out
   clear HA
   simp only [spec_l11Privates.l0] at H
   by_cases c6 : x6_1 < (l0_0.length : Int)
   ·
    rw [if_pos c6] at H
    have c6b0 : decide (x6_1 < (l0_0.length : Int)) = true := decide_eq_true c6
    clear c6
    by_cases c7 : 0 ≤ x6_1
    ·
     rw [if_pos c7] at H
     have c7b0 : decide (0 ≤ x6_1) = true := decide_eq_true c7
     clear c7
     by_cases c8 : ((rd_T115 l0_0 x6_1).f0) = 2
     ·
      rw [if_pos c8] at H
      have c8b0 : (((rd_T115 l0_0 x6_1).f0) == 2) = true := beq_iff_eq.mpr c8
      have c8b1 : (((rd_T115 l0_0 x6_1).f0) != 2) = false := bne_eq_false_iff_eq.mpr c8
      clear c8
      have H' := am_ H
      clear H
      have hcz9_0 : wr.cell? ⟨gb101, 0, none⟩ = some (.slice A0_0 l0_0.length c0_0) := (blk_cell BK101.out 0).trans rfl
      have hfz9_0 := blk_frozen BK101.out 0
      have p105 : 0 ≤ (x6_1 : Int) := of_decide_eq_true qz0_
      have q105 : x6_1 < (l0_0.length : Int) := of_decide_eq_true qz0_
      obtain ⟨ad105, e105, hx105_0, hx105_1, hx105_2, hx105_3⟩ := at_T115 HR0_0.out x6_1 p105 q105
      cases e105
      replace hx105_0 := (HB.out.cell (World.block_lt_of_cell? w _ hx105_0)).trans hx105_0
      replace hx105_1 := (HB.out.cell (World.block_lt_of_cell? w _ hx105_1)).trans hx105_1
      replace hx105_2 := (HB.out.cell (World.block_lt_of_cell? w _ hx105_2)).trans hx105_2
      replace hx105_3 := (HB.out.cell (World.block_lt_of_cell? w _ hx105_3)).trans hx105_3
      replace p105 := eq_true p105
      replace q105 := eq_true q105
      go_wp2
      go_roundg k1
      case measure => have := HK1.out; omega
      case rel => exact ⟨(x5_1), (wrap64 (x6_1 + 1)), qz2_, H', ⟨qz3_⟩, ⟨qz54_⟩, ⟨qz11_⟩, ⟨qz10_⟩⟩
     ·
      rw [if_neg c8] at H
      have c8b0 : (((rd_T115 l0_0 x6_1).f0) == 2) = false := beq_eq_false_iff_ne.mpr c8
      have c8b1 : (((rd_T115 l0_0 x6_1).f0) != 2) = true := bne_iff_ne.mpr c8
      by_cases c10 : x6_1 < (l1.length : Int)
      ·
       rw [if_pos c10] at H
       have c10b0 : decide (x6_1 < (l1.length : Int)) = true := decide_eq_true c10
       clear c10
       by_cases c11 : x5_1.length < 17592186044416
       ·
        rw [if_pos c11] at H
        have LMc11 := am_ c11
        clear c11
        obtain ⟨y107, hy107⟩ : ∃ y_ : List Int, y_ = (x5_1 ++ [rd l1 x6_1]) := ⟨_, rfl⟩
        replace H : (spec_l11Privates.l0 k1 l1 y107 (wrap64 (x6_1 + 1)) l0_0) = some r := by first | (rw [hy107]; with_reducible exact H) | (have H2_ := (Option.bind_some _ _).symm.trans H; rw [hy107]; with_reducible exact H2_) | (have H2_ := (Option.bind_some _ _).symm.trans H; with_reducible exact H2_) | with_reducible exact H | (rw [hy107]; exact H) | exact H
        have Ny107 := am_ hy107
        clear hy107
        have H' := am_ H
        clear H
        have hcz12_0 : wr.cell? ⟨gb101, 0, none⟩ = some (.slice A0_0 l0_0.length c0_0) := (blk_cell BK101.out 0).trans rfl
        have hfz12_0 := blk_frozen BK101.out 0
        have p105 : 0 ≤ (x6_1 : Int) := of_decide_eq_true qz0_
        have q105 : x6_1 < (l0_0.length : Int) := of_decide_eq_true qz0_
        obtain ⟨ad105, e105, hx105_0, hx105_1, hx105_2, hx105_3⟩ := at_T115 HR0_0.out x6_1 p105 q105
        cases e105
        replace hx105_0 := (HB.out.cell (World.block_lt_of_cell? w _ hx105_0)).trans hx105_0
        replace hx105_1 := (HB.out.cell (World.block_lt_of_cell? w _ hx105_1)).trans hx105_1
        replace hx105_2 := (HB.out.cell (World.block_lt_of_cell? w _ hx105_2)).trans hx105_2
        replace hx105_3 := (HB.out.cell (World.block_lt_of_cell? w _ hx105_3)).trans hx105_3
        replace p105 := eq_true p105
        replace q105 := eq_true q105
        have p106 : 0 ≤ (x6_1 : Int) := of_decide_eq_true qz0_
        have q106 : x6_1 < (l1.length : Int) := of_decide_eq_true qz0_
        obtain ⟨ad106, e106, hx106_0⟩ := Kd.at_int HR1.out x6_1 p106 q106
        cases e106
        replace hx106_0 := (HB.out.cell (World.block_lt_of_cell? w _ hx106_0)).trans hx106_0
        replace p106 := eq_true p106
        replace q106 := eq_true q106
        go_wp2_with (first | ((with_reducible refine gate_builtin (b := .append) (xs := #[.tmp 22, .tmp 27]) rfl ?_); at_builtin; refine Kd.R_append (Kd.int .i64) (w0 := w) w.heap.size rfl (.tmp 22) (.tmp 27) 33 3 (.int .i64 0) 8 rfl Try.underlying33 info3 rfl (by decide) (by omega) u5 x5_1 (rd l1 x6_1) [.int .i64 (rd l1 x6_1)] (fun _ => True) (fun _ => False) rfl rfl ?aP (fun _ hk => hk.elim) ?aF ?aO ?aB ?aS ?aL ?_; (case aP => exact rfl); (case aB => exact qz10_); (case aF => exact (fun _ _ => trivial)); (case aO => exact qz54_); (case aS => exact (below_size qz10_)); (case aL => have := LMc11.out; omega); intro v108 w13 ho hb hg hat; rw [← Ny107.out] at ho; have n0_ := am_ (blk_grown (g := gb101) (o := .cells #[.slice (some ad105) l0_0.length c0_0] 63 (0, 0)) qz11_ hg (Kd.R_ne HO_5.out BK101.out (by decide))); have n1_ := am_ (hb); have n2_ := am_ (ho); clear BK101; clear HB; clear HO_5; have BK101 := n0_; have HB := n1_; have HO109 := n2_; clear n0_ n1_ n2_; clear ho hb hg hat))
        go_roundg k1
        case measure => have := HK1.out; omega
        case rel => exact ⟨(y107), (wrap64 (x6_1 + 1)), qz2_, H', ⟨qz3_⟩, ⟨(by (with_reducible repeat (first | apply Kd.R_alloc | apply Kd.R_drewN | apply Kd.R_drew)); exact HO109.out)⟩, ⟨qz11_⟩, ⟨qz10_⟩⟩
       ·
        rw [if_neg c11] at H
        exact absurd H (by simp)
      ·
       rw [if_neg c10] at H
       exact absurd H (by simp)
    ·
     rw [if_neg c7] at H
     exact absurd H (by simp)
   ·
    rw [if_neg c6] at H
    have c6b0 : decide (x6_1 < (l0_0.length : Int)) = false := decide_eq_false c6
    clear c6
    obtain rfl := Option.some.inj H
    have hcz14_0 : wr.cell? ⟨gb101, 0, none⟩ = some (.slice A0_0 l0_0.length c0_0) := (blk_cell BK101.out 0).trans rfl
    have hfz14_0 := blk_frozen BK101.out 0
    go_wp2
    go_ret
    exact ⟨_, qz5_, qz54_, qz10_⟩


/-! ### spec_WitnessOf: function 39 -/
def spec_WitnessOf.j0 : Nat → List Int → List Int → Bool → List (S115) → Option (List Int × List Int × Int)
 | 0, _, _, _, _ => none
 | k + 1, x1, x2, x18, x102000 => if x18 = true then (some ((([] : List Int)), (([] : List Int)), 2)) else ((spec_l11Ask.f k x102000 x1 x2).bind fun t108 => (if t108 = 0 then ((spec_l11Run.f k x102000 x1 x2).bind fun t115 => ((spec_l11Fits.f k x102000 t115).bind fun t118 => (if t118 = true then ((some (([] : List Int) : List Int)).bind fun y119 => (if y119.length + x1.length < 17592186044416 then ((spec_l11Privates.f k x102000 t115).bind fun t125 => (some ((y119 ++ x1), t125, 0))) else (none))) else (some ((([] : List Int)), (([] : List Int)), 15))))) else (some ((([] : List Int)), (([] : List Int)), t108))))
def spec_WitnessOf.f (k : Nat) (l0_0 : List (S115)) (l1 : List Int) (l2 : List Int) : Option (List Int × List Int × Int) := if (l1.length : Int) > 4096 then (spec_WitnessOf.j0 k l1 l2 true l0_0) else (spec_WitnessOf.j0 k l1 l2 (decide ((l2.length : Int) > 4096)) l0_0)
theorem spec_WitnessOf.mono_l : ∀ k, (∀ y0 y1 y2 y3, LeO (spec_WitnessOf.j0 k y0 y1 y2 y3) (spec_WitnessOf.j0 (k + 1) y0 y1 y2 y3))
 | 0 => fun _ _ _ _ r h => by simp [spec_WitnessOf.j0] at h
 | k + 1 => by
  have ih0 := spec_WitnessOf.mono_l k
  ·
   intro y0 y1 y2 y3
   unfold spec_WitnessOf.j0
   repeat' first
   | (with_reducible exact ih0 _ _ _ _)
   | (with_reducible exact spec_l11Ask.mono _ _ _ _)
   | (with_reducible exact spec_l11Fits.mono _ _ _)
   | (with_reducible exact spec_l11Privates.mono _ _ _)
   | (with_reducible exact spec_l11Run.mono _ _ _ _)
   | (with_reducible exact LeO.refl _)
   | (with_reducible exact LeO.none _)
   | (with_reducible refine LeO.ite ?_ ?_)
   | (with_reducible refine LeO.bind ?_ (fun _ => ?_))
   | exact ih0 _ _ _ _
   | exact spec_l11Ask.mono _ _ _ _
   | exact spec_l11Fits.mono _ _ _
   | exact spec_l11Privates.mono _ _ _
   | exact spec_l11Run.mono _ _ _ _
   | exact LeO.none _
   | refine LeO.ite ?_ ?_
   | refine LeO.bind ?_ (fun _ => ?_)
theorem spec_WitnessOf.mono : ∀ a0 a1 a2 k, LeO (spec_WitnessOf.f k a0 a1 a2) (spec_WitnessOf.f (k + 1) a0 a1 a2) := by
 intro a0 a1 a2 k
 have ih0 := spec_WitnessOf.mono_l k
 unfold spec_WitnessOf.f
 repeat' first
   | (with_reducible exact ih0 _ _ _ _)
   | (with_reducible exact spec_l11Ask.mono _ _ _ _)
   | (with_reducible exact spec_l11Fits.mono _ _ _)
   | (with_reducible exact spec_l11Privates.mono _ _ _)
   | (with_reducible exact spec_l11Run.mono _ _ _ _)
   | (with_reducible exact LeO.refl _)
   | (with_reducible exact LeO.none _)
   | (with_reducible refine LeO.ite ?_ ?_)
   | (with_reducible refine LeO.bind ?_ (fun _ => ?_))
   | exact ih0 _ _ _ _
   | exact spec_l11Ask.mono _ _ _ _
   | exact spec_l11Fits.mono _ _ _
   | exact spec_l11Privates.mono _ _ _
   | exact spec_l11Run.mono _ _ _ _
   | exact LeO.none _
   | refine LeO.ite ?_ ?_
   | refine LeO.bind ?_ (fun _ => ?_)
def spec_WitnessOf.T9 : Bool × List (List Nat × List Nat) := (true, [([], []), ([], []), ([0, 1], [0, 1]), ([], []), ([], []), ([3, 4, 2], [3, 4]), ([2, 5, 0, 1, 2], [2]), ([5, 6, 0, 1, 2, 3, 4, 5, 6], [5]), ([7, 0, 1, 2, 3, 4, 5, 6, 7], [])])
def spec_WitnessOf.B9 : List Nat := [0, 0, 3, 0, 0, 31, 63, 127, 255]
theorem spec_WitnessOf.tab9 : rtab .any (opsOf Try.f39 9) = spec_WitnessOf.T9 := by kernel_rfl
theorem spec_WitnessOf.bits9 : waitsOk spec_WitnessOf.T9.2 spec_WitnessOf.B9 = true := by kernel_rfl
set_option maxHeartbeats 8000000 in
set_option maxRecDepth 100000 in
theorem spec_WitnessOf.calls (k : Nat) (A0_0 : Option Addr) (c0_0 : Nat) (l0_0 : List (S115)) (A1 : Option Addr) (c1 : Nat) (l1 : List Int) (A2 : Option Addr) (c2 : Nat) (l2 : List Int) (r1 : List Int) (r2 : List Int) (r3 : Int) (w : World) (hr0_0 : Kd.C k115 w A0_0 l0_0.length l0_0) (hc0_0 : l0_0.length ≤ c0_0) (hr1 : Kd.C (Kd.int .i64) w A1 l1.length l1) (hc1 : l1.length ≤ c1) (hr2 : Kd.C (Kd.int .i64) w A2 l2.length l2) (hc2 : l2.length ≤ c2) (h : spec_WitnessOf.f k l0_0 l1 l2 = some (r1, r2, r3)) :
  Calls Try.prog 39 #[.agg #[.slice A0_0 l0_0.length c0_0], .slice A1 l1.length c1, .slice A2 l2.length c2] w fun e w' => ∃ v0_ v1_ : Value, e = .returned (.tuple #[v0_, v1_, .int .i64 r3]) ∧ Kd.R (Kd.int .i64) 3 w' w.heap.size (fun k_ => some k_ ≠ (v1_ : Value).ownBlock) v0_ r1 ∧ Kd.R (Kd.int .i64) 3 w' w.heap.size (fun k_ => some k_ ≠ (v0_ : Value).ownBlock) v1_ r2 ∧ Below w.heap.size w w' := by
 have hu63 := Try.underlying63
 have HR0_0 := am_ hr0_0
 have HC0_0 := am_ hc0_0
 clear hr0_0 hc0_0
 have HR1 := am_ hr1
 have HC1 := am_ hc1
 clear hr1 hc1
 have HR2 := am_ hr2
 have HC2 := am_ hc2
 clear hr2 hc2
 have HB := am_ (Below.refl w.heap.size w)
 have H : (if (l1.length : Int) > 4096 then (spec_WitnessOf.j0 k l1 l2 true l0_0) else (spec_WitnessOf.j0 k l1 l2 (decide ((l2.length : Int) > 4096)) l0_0)) = some (r1, r2, r3) := h
 clear h
 have HC4 := am_ H
 clear H
 go_enter Try.func39, Try.ntmps39
 go_upto_region 1 with (first | ((with_reducible refine gate_dst (N := 3) rfl ?_); (try (refine gate_guard (by rfl) ?_; dsimp only)); refine box_event ?hg (N := 3) ?hd (cs := #[.slice A0_0 l0_0.length c0_0]) (t := 63) ?hr ?_; (case hd => rfl); (case hg => rfl); (case hr => first | (go_simp; done) | (go_simp; rfl)); intro gb101 hg w5 hbox hb; have n0_ := am_ (below_step qz1_ hb); have n1_ := am_ (hbox); have n2_ := am_ ((by rw [hg]; exact (below_size qz1_) : w.heap.size ≤ gb101)); have n3_ := am_ ((by rw [hg]; exact (below_size qz1_) : w.heap.size ≤ gb101)); clear HB; have HB := n0_; have BK101 := n1_; have GW101 := n2_; have GE101 := n3_; clear n0_ n1_ n2_ n3_; clear hb hbox hg))
 (try simp only [Act.put, List.setIfInBounds_toArray, List.set_cons_zero, List.set_cons_succ])
 go_cut [18] (fun v18 wc => ∃ (kq : Nat) (x18_3 : Bool), v18 = .bool x18_3 ∧ Aside0 (spec_WitnessOf.j0 kq l1 l2 x18_3 l0_0 = some (r1, r2, r3)) ∧ Aside0 (kq ≤ k) ∧ Aside0 (wc.heap[gb101]? = some (.cells #[(.slice A0_0 l0_0.length c0_0)] 63 (0, 0))) ∧ Aside0 (Below w.heap.size w wc))
 case first =>
  have H := HC4.out
  clear HC4
  by_cases c6 : (l1.length : Int) > 4096
  ·
   rw [if_pos c6] at H
   have c6b0 : decide (4096 < (l1.length : Int)) = true := decide_eq_true c6
   have c6b1 : decide (4096 < l1.length) = true := decide_eq_true (by omega)
   clear c6
   (first | rw [c6b0] | (simp only [i64_w, i32_w]; rw [c6b0]) | skip)
   have H' := am_ H
   clear H
   go_wp2
   go_meet
   case rel => exact ⟨_, (true), qz2_, H', ⟨qz14_⟩, ⟨qz11_⟩, ⟨qz10_⟩⟩
  ·
   rw [if_neg c6] at H
   have c6b0 : decide (4096 < (l1.length : Int)) = false := decide_eq_false c6
   have c6b1 : decide (4096 < l1.length) = false := decide_eq_false (by omega)
   clear c6
   (first | rw [c6b0] | (simp only [i64_w, i32_w]; rw [c6b0]) | skip)
   have H' := am_ H
   clear H
   go_wp2
   go_meet
   case rel => exact ⟨_, (decide ((l2.length : Int) > 4096)), qz2_, H', ⟨qz14_⟩, ⟨qz11_⟩, ⟨qz10_⟩⟩
 case rest =>
  clear HC4
  try clear c1
  try clear c2
  try clear p2
  try clear c3
  try clear c6
  try clear c6b0
  try clear c6b1
  obtain ⟨kq, x18_3, rfl, HA, HJ3, BK101, HB⟩ := hcut
  cases kq with
  | zero => exact absurd HA.out (by simp [spec_WitnessOf.j0])
  | succ kj3 =>
   have H := HA.out
   clear HA
   simp only [spec_WitnessOf.j0] at H
   by_cases c7 : x18_3 = true
   ·
    subst c7
    have H1 : (some ((([] : List Int)), (([] : List Int)), 2)) = some (r1, r2, r3) := by rw [if_pos rfl] at H; exact H
    clear H
    have H := H1
    clear H1
    obtain ⟨y102, hy102⟩ : ∃ y_ : List Int, y_ = (([] : List Int)) := ⟨_, rfl⟩
    replace H : (some (y102, (([] : List Int)), 2)) = some (r1, r2, r3) := by first | (rw [hy102]; with_reducible exact H) | (have H2_ := (Option.bind_some _ _).symm.trans H; rw [hy102]; with_reducible exact H2_) | (have H2_ := (Option.bind_some _ _).symm.trans H; with_reducible exact H2_) | with_reducible exact H | (rw [hy102]; exact H) | exact H
    have Ny102 := am_ hy102
    clear hy102
    obtain ⟨y105, hy105⟩ : ∃ y_ : List Int, y_ = (([] : List Int)) := ⟨_, rfl⟩
    replace H : (some (y102, y105, 2)) = some (r1, r2, r3) := by first | (rw [hy105]; with_reducible exact H) | (have H2_ := (Option.bind_some _ _).symm.trans H; rw [hy105]; with_reducible exact H2_) | (have H2_ := (Option.bind_some _ _).symm.trans H; with_reducible exact H2_) | with_reducible exact H | (rw [hy105]; exact H) | exact H
    have Ny105 := am_ hy105
    clear hy105
    simp only [Option.some.injEq, Prod.mk.injEq] at H
    obtain ⟨rfl, rfl, rfl⟩ := H
    go_wp2_with (first | ((with_reducible refine gate_dst (N := 19) rfl ?_); (try (refine gate_guard (by rfl) ?_; dsimp only)); refine Kd.R_lit (Kd.int .i64) _ 3 ?hg (N := 19) ?hd (xs := ([] : List Int)) (inner := []) (ok := fun _ => True) (okp := fun _ => True) ?hr ?hp (fun _ hk => hk) trivial (Below.refl _ _) (Nat.le_refl _) (by simp) ?_; (case hd => rfl); (case hg => rfl); (case hr => first | (go_simp; done) | (go_simp; rfl)); (case hp => exact (Reps.none _ _)); intro v103 w8 ho9 hb hg_ hnew_; clear hg_ hnew_; (first | rw [← Ny102.out] at ho9 | (simp only [Int.reduceToNat] at ho9; rw [← Ny102.out] at ho9)); have n0_ := am_ (Kd.R_lower ho9 (below_size qz10_)); have n1_ := am_ (blk_below (g := gb101) (o := .cells #[.slice A0_0 l0_0.length c0_0] 63 (0, 0)) qz11_ hb); have n2_ := am_ (below_step qz10_ hb); clear BK101; clear HB; have HO104 := n0_; have BK101 := n1_; have HB := n2_; clear n0_ n1_ n2_; clear hb ho9) | ((with_reducible refine gate_dst (N := 20) rfl ?_); (try (refine gate_guard (by rfl) ?_; dsimp only)); refine Kd.R_lit (Kd.int .i64) _ 3 ?hg (N := 20) ?hd (xs := ([] : List Int)) (inner := []) (ok := fun _ => True) (okp := fun _ => True) ?hr ?hp (fun _ hk => hk) trivial (Below.refl _ _) (Nat.le_refl _) (by simp) ?_; (case hd => rfl); (case hg => rfl); (case hr => first | (go_simp; done) | (go_simp; rfl)); (case hp => exact (Reps.none _ _)); intro v106 w10 ho11 hb hg_ hnew_; clear hg_ hnew_; (first | rw [← Ny105.out] at ho11 | (simp only [Int.reduceToNat] at ho11; rw [← Ny105.out] at ho11)); have n0_ := am_ (Kd.R_elder' qz15_ (Kd.R_base ho11) hb); have n1_ := am_ (Kd.R_lower (Kd.R_new' ho11 (Kd.R_lt qz15_)) (below_size qz10_)); have n2_ := am_ (blk_below (g := gb101) (o := .cells #[.slice A0_0 l0_0.length c0_0] 63 (0, 0)) qz11_ hb); have n3_ := am_ (below_step qz10_ hb); clear HO104; clear BK101; clear HB; have HO104 := n0_; have HO107 := n1_; have BK101 := n2_; have HB := n3_; clear n0_ n1_ n2_ n3_; clear hb ho11))
    go_ret3
    exact ⟨_, _, qz5_, (by (with_reducible repeat (first | apply Kd.R_alloc | apply Kd.R_drewN | apply Kd.R_drew)); exact Kd.R_mono HO104.out (fun _ hk => hk.2)), (by (with_reducible repeat (first | apply Kd.R_alloc | apply Kd.R_drewN | apply Kd.R_drew)); exact Kd.R_mono HO107.out (fun _ hk => hk.2)), qz10_⟩
   ·
    replace c7 := Bool.eq_false_iff.mpr c7
    subst c7
    have H1 : ((spec_l11Ask.f kj3 l0_0 l1 l2).bind fun t108 => (if t108 = 0 then ((spec_l11Run.f kj3 l0_0 l1 l2).bind fun t115 => ((spec_l11Fits.f kj3 l0_0 t115).bind fun t118 => (if t118 = true then ((some (([] : List Int) : List Int)).bind fun y119 => (if y119.length + l1.length < 17592186044416 then ((spec_l11Privates.f kj3 l0_0 t115).bind fun t125 => (some ((y119 ++ l1), t125, 0))) else (none))) else (some ((([] : List Int)), (([] : List Int)), 15))))) else (some ((([] : List Int)), (([] : List Int)), t108)))) = some (r1, r2, r3) := by rw [if_neg (show ¬ (false = true) by decide)] at H; exact H
    clear H
    have H := H1
    clear H1
    replace H := Option.bind_eq_some_iff.mp H
    obtain ⟨t108, A120, H⟩ := H
    replace H : (if t108 = 0 then ((spec_l11Run.f kj3 l0_0 l1 l2).bind fun t115 => ((spec_l11Fits.f kj3 l0_0 t115).bind fun t118 => (if t118 = true then ((some (([] : List Int) : List Int)).bind fun y119 => (if y119.length + l1.length < 17592186044416 then ((spec_l11Privates.f kj3 l0_0 t115).bind fun t125 => (some ((y119 ++ l1), t125, 0))) else (none))) else (some ((([] : List Int)), (([] : List Int)), 15))))) else (some ((([] : List Int)), (([] : List Int)), t108))) = some (r1, r2, r3) := H
    have A12 := am_ A120
    clear A120
    by_cases c13 : t108 = 0
    ·
     rw [if_pos c13] at H
     have c13b0 : (t108 == 0) = true := beq_iff_eq.mpr c13
     have c13b1 : (t108 != 0) = false := bne_eq_false_iff_eq.mpr c13
     clear c13
     replace H := Option.bind_eq_some_iff.mp H
     obtain ⟨t115, A140, H⟩ := H
     replace H : ((spec_l11Fits.f kj3 l0_0 t115).bind fun t118 => (if t118 = true then ((some (([] : List Int) : List Int)).bind fun y119 => (if y119.length + l1.length < 17592186044416 then ((spec_l11Privates.f kj3 l0_0 t115).bind fun t125 => (some ((y119 ++ l1), t125, 0))) else (none))) else (some ((([] : List Int)), (([] : List Int)), 15)))) = some (r1, r2, r3) := H
     have A14 := am_ A140
     clear A140
     replace H := Option.bind_eq_some_iff.mp H
     obtain ⟨t118, A150, H⟩ := H
     replace H : (if t118 = true then ((some (([] : List Int) : List Int)).bind fun y119 => (if y119.length + l1.length < 17592186044416 then ((spec_l11Privates.f kj3 l0_0 t115).bind fun t125 => (some ((y119 ++ l1), t125, 0))) else (none))) else (some ((([] : List Int)), (([] : List Int)), 15))) = some (r1, r2, r3) := H
     have A15 := am_ A150
     clear A150
     by_cases c16 : t118 = true
     ·
      subst c16
      have H1 : ((some (([] : List Int) : List Int)).bind fun y119 => (if y119.length + l1.length < 17592186044416 then ((spec_l11Privates.f kj3 l0_0 t115).bind fun t125 => (some ((y119 ++ l1), t125, 0))) else (none))) = some (r1, r2, r3) := by rw [if_pos rfl] at H; exact H
      clear H
      have H := H1
      clear H1
      obtain ⟨y119, hy119⟩ : ∃ y_ : List Int, y_ = (([] : List Int)) := ⟨_, rfl⟩
      replace H : (if y119.length + l1.length < 17592186044416 then ((spec_l11Privates.f kj3 l0_0 t115).bind fun t125 => (some ((y119 ++ l1), t125, 0))) else (none)) = some (r1, r2, r3) := by first | (rw [hy119]; with_reducible exact H) | (have H2_ := (Option.bind_some _ _).symm.trans H; rw [hy119]; with_reducible exact H2_) | (have H2_ := (Option.bind_some _ _).symm.trans H; with_reducible exact H2_) | with_reducible exact H | (rw [hy119]; exact H) | exact H
      have Ny119 := am_ hy119
      clear hy119
      by_cases c17 : y119.length + l1.length < 17592186044416
      ·
       rw [if_pos c17] at H
       have LMc17 := am_ c17
       clear c17
       obtain ⟨y122, hy122⟩ : ∃ y_ : List Int, y_ = (y119 ++ l1) := ⟨_, rfl⟩
       replace H : ((spec_l11Privates.f kj3 l0_0 t115).bind fun t125 => (some (y122, t125, 0))) = some (r1, r2, r3) := by first | (rw [hy122]; with_reducible exact H) | (have H2_ := (Option.bind_some _ _).symm.trans H; rw [hy122]; with_reducible exact H2_) | (have H2_ := (Option.bind_some _ _).symm.trans H; with_reducible exact H2_) | with_reducible exact H | (rw [hy122]; exact H) | exact H
       have Ny122 := am_ hy122
       clear hy122
       replace H := Option.bind_eq_some_iff.mp H
       obtain ⟨t125, A180, H⟩ := H
       replace H : (some (y122, t125, 0)) = some (r1, r2, r3) := H
       have A18 := am_ A180
       clear A180
       simp only [Option.some.injEq, Prod.mk.injEq] at H
       obtain ⟨rfl, rfl, rfl⟩ := H
       have hcz19_0 : wc.cell? ⟨gb101, 0, none⟩ = some (.slice A0_0 l0_0.length c0_0) := (blk_cell BK101.out 0).trans rfl
       have hfz19_0 := blk_frozen BK101.out 0
       try go_wp2_with (first | ((with_reducible refine gate_callee (f := 69) rfl ?_); refine goesL_ (some 24) rfl rfl Try.func69 (by kernel_rfl) rfl #[.agg #[.slice A0_0 l0_0.length c0_0], .slice A1 l1.length c1, .slice A2 l2.length c2] rfl qz9_ ?_; (with_reducible refine (spec_l11Ask.calls kj3 _ _ l0_0 _ _ l1 _ _ l2 t108 _ ?side1 ?side2 ?side3 ?side4 ?side5 ?side6 A12.out).mono ?_); (case side1 => exact qc_ (Kd.C_below HR0_0.out HB.out)); (case side2 => exact HC0_0.out); (case side3 => exact qc_ (Kd.C_below HR1.out HB.out)); (case side4 => exact HC1.out); (case side5 => exact qc_ (Kd.C_below HR2.out HB.out)); (case side6 => exact HC2.out); rintro e w20 ⟨rfl, hb⟩; refine ⟨_, rfl, ?_⟩; have n0_ := am_ (blk_below (g := gb101) (o := .cells #[.slice A0_0 l0_0.length c0_0] 63 (0, 0)) qz11_ hb); have n1_ := am_ (below_step qz10_ hb); clear BK101; clear HB; have BK101 := n0_; have HB := n1_; clear n0_ n1_; (try clear hb); (try clear hb2); (try clear hk); (try clear hi); have hcz21_0 : w20.cell? ⟨gb101, 0, none⟩ = some (.slice A0_0 l0_0.length c0_0) := (blk_cell BK101.out 0).trans rfl; have hfz21_0 := blk_frozen BK101.out 0) | ((with_reducible refine gate_callee (f := 70) rfl ?_); refine goesL_ (some 33) rfl rfl Try.func70 (by kernel_rfl) rfl #[.agg #[.slice A0_0 l0_0.length c0_0], .slice A1 l1.length c1, .slice A2 l2.length c2] rfl qz9_ ?_; (with_reducible refine (spec_l11Run.calls kj3 _ _ l0_0 _ _ l1 _ _ l2 t115 _ ?side1 ?side2 ?side3 ?side4 ?side5 ?side6 A14.out).mono ?_); (case side1 => exact qc_ (Kd.C_below HR0_0.out HB.out)); (case side2 => exact HC0_0.out); (case side3 => exact qc_ (Kd.C_below HR1.out HB.out)); (case side4 => exact HC1.out); (case side5 => exact qc_ (Kd.C_below HR2.out HB.out)); (case side6 => exact HC2.out); rintro e w22 ⟨v116, rfl, ho0, hb⟩; refine ⟨_, rfl, ?_⟩; have n0_ := am_ (Kd.R_lower ho0 (below_size qz10_)); have n1_ := am_ (blk_below (g := gb101) (o := .cells #[.slice A0_0 l0_0.length c0_0] 63 (0, 0)) qz11_ hb); have n2_ := am_ (below_step qz10_ hb); clear BK101; clear HB; have HO117 := n0_; have BK101 := n1_; have HB := n2_; clear n0_ n1_ n2_; (try clear hb); (try clear hb2); (try clear hk); (try clear hi); (try clear ho0); have hcz23_0 : w22.cell? ⟨gb101, 0, none⟩ = some (.slice A0_0 l0_0.length c0_0) := (blk_cell BK101.out 0).trans rfl; have hfz23_0 := blk_frozen BK101.out 0; obtain ⟨Ao24, co24, eo24⟩ := Kd.R_slice HO117.out; subst eo24) | ((with_reducible refine gate_callee (f := 71) rfl ?_); refine goesL_ (some 36) rfl rfl Try.func71 (by kernel_rfl) rfl #[.agg #[.slice A0_0 l0_0.length c0_0], .slice Ao24 t115.length co24] rfl qz9_ ?_; (with_reducible refine (spec_l11Fits.calls kj3 _ _ l0_0 _ _ t115 true _ ?side1 ?side2 ?side3 ?side4 A15.out).mono ?_); (case side1 => exact qc_ (Kd.C_below HR0_0.out HB.out)); (case side2 => exact HC0_0.out); (case side3 => exact qc_ (Kd.R_reads' HO117.out).2.2); (case side4 => exact (Kd.R_reads' HO117.out).2.1); rintro e w25 ⟨rfl, hb⟩; refine ⟨_, rfl, ?_⟩; have n0_ := am_ (Kd.R_below qz28_ hb); have n1_ := am_ (blk_below (g := gb101) (o := .cells #[.slice A0_0 l0_0.length c0_0] 63 (0, 0)) qz11_ hb); have n2_ := am_ (below_step qz10_ hb); clear HO117; clear BK101; clear HB; have HO117 := n0_; have BK101 := n1_; have HB := n2_; clear n0_ n1_ n2_; (try clear hb); (try clear hb2); (try clear hk); (try clear hi)))
       have n0_ := am_ (Kd.R_drew HO117.out)
       have n1_ := am_ (blk_drew BK101.out)
       have n2_ := am_ (below_drew1 HB.out)
       clear HO117
       clear BK101
       clear HB
       have HO117 := n0_
       have BK101 := n1_
       have HB := n2_
       clear n0_ n1_ n2_
       refine start_ (n := 9) (S := fun w' => w'.cell? ⟨gb101, 0, none⟩ = some (.slice A0_0 l0_0.length c0_0)) (ds := []) #[false, false, false, false, false, false, false, false, false] (by kernel_rfl) rfl rfl ((blk_cell BK101.out 0).trans rfl) (fun hHeld => ?_); refine with_tabW spec_WitnessOf.tab9 spec_WitnessOf.bits9 (fun HT_ HW_ => ?_)
       generalize w25.drew = w26 at HO117 BK101 HB hHeld ⊢
       refine pure_ (i := 1) (N := some 41) (v := ?_) (a' := ?_) #[false, true, false, false, false, false, false, false, false] rfl rfl (any_of HT_.out (by kernel_rfl)) (fun _ _ _ h => h) (Or.inl ⟨(by rfl), ?_⟩) ?_ ?_
       rotate_left
       ·
        intro w'
        go_simp
        with_reducible rfl
       rotate_left
       ·
        simp only [Act.put, List.setIfInBounds_toArray, List.set_cons_zero, List.set_cons_succ, i64_w, i32_w]
        rfl
       refine pure_ (i := 4) (N := some 44) (v := ?_) (a' := ?_) #[false, true, false, false, true, false, false, false, false] rfl rfl (any_of HT_.out (by kernel_rfl)) (fun _ _ _ h => h) (Or.inl ⟨(by rfl), ?_⟩) ?_ ?_
       rotate_left
       ·
        intro w'
        go_simp
        with_reducible rfl
       rotate_left
       ·
        simp only [Act.put, List.setIfInBounds_toArray, List.set_cons_zero, List.set_cons_succ, i64_w, i32_w]
        rfl
       refine take_ (i := 3) (N := some 43) (v := ?_) (a' := ?_) #[false, true, false, true, true, false, false, false, false] rfl rfl (take_ofW HT_.out HW_.out (by kernel_rfl)) (fun _ _ _ h => h) (Or.inl ⟨(by rfl), ?_⟩) hHeld ?_ ?_
       rotate_left
       ·
        intro w' s0
        go_simp
        with_reducible rfl
       rotate_left
       ·
        simp only [Act.put, List.setIfInBounds_toArray, List.set_cons_zero, List.set_cons_succ, i64_w, i32_w]
        rfl
       refine one_ (i := 0) (N := some 40) #[true, true, false, true, true, false, false, false, false] rfl rfl (one_of HT_.out (by kernel_rfl)) (by decide) (fun K hK => ?_)
       refine Kd.R_lit_step (Kd.int .i64) _ 3 ?hg (N := 40) ?hd (xs := ([] : List Int)) (inner := []) (ok := fun _ => True) (okp := fun _ => True) ?hr ?hp (fun _ hk => hk) trivial (Below.refl _ _) (Nat.le_refl _) (by simp) ?_; (case hd => rfl); (case hg => rfl); (case hr => first | (go_simp; done) | (go_simp; rfl)); (case hp => exact (Reps.none _ _))
       intro v120 w27 ho28 hb hg_ hnew_
       clear hg_ hnew_
       (first | rw [← Ny119.out] at ho28 | (simp only [Int.reduceToNat] at ho28; rw [← Ny119.out] at ho28))
       have n0_ := am_ (Kd.R_elder' qz28_ (Kd.R_base ho28) hb)
       have n1_ := am_ (Kd.R_lower (Kd.R_new' ho28 (Kd.R_lt qz28_)) (below_size qz10_))
       have n2_ := am_ (blk_below (g := gb101) (o := .cells #[.slice A0_0 l0_0.length c0_0] 63 (0, 0)) qz11_ hb)
       have n3_ := am_ (below_step qz10_ hb)
       clear HO117
       clear BK101
       clear HB
       have HO117 := n0_
       have HO121 := n1_
       have BK101 := n2_
       have HB := n3_
       clear n0_ n1_ n2_ n3_
       clear hb ho28
       refine hK.out _ _ ((blk_cell BK101.out 0).trans rfl) (fun hHeld => ?_)
       clear hK K
       refine norm_ (a' := ?_) ?_ ?_
       rotate_left
       ·
        show Act.put _ (some 40) _ = _
        simp only [Act.put, List.setIfInBounds_toArray, List.set_cons_zero, List.set_cons_succ, i64_w, i32_w]
        rfl
       refine one_ (i := 2) (N := some 42) #[true, true, true, true, true, false, false, false, false] rfl rfl (one_of HT_.out (by kernel_rfl)) (by decide) (fun K hK => ?_)
       refine Kd.R_append_rows_step (Kd.int .i64) (w0 := w) w.heap.size (by rfl) (.tmp 40) (.tmp 41) 33 3 (.int .i64 0) 8 rfl Try.underlying33 info3 rfl (by decide) (by omega) v120 y119 l1 _ _ _ (fun k_ => some k_ ≠ (.slice Ao24 t115.length co24 : Value).ownBlock) (fun _ => False) rfl rfl ?aO ?aR (fun _ _ h => h) (fun _ h => h.elim) ?aF ?aB ?aS ?aL ?_
       (case aR => exact qc_ (Kd.C_below HR1.out HB.out))
       (case aB => exact qz10_)
       (case aF => exact (fun k_ hk => Kd.fresh' (Kd.R_lt qz28_) k_ hk))
       (case aO => exact (by (with_reducible repeat (first | apply Kd.R_alloc | apply Kd.R_drewN | apply Kd.R_drew)); exact Kd.R_mono HO121.out (fun _ hk => hk.2)))
       (case aS => exact (below_size qz10_))
       (case aL => have := LMc17.out; omega)
       intro v123 w29 ho hb hg hat
       rw [← Ny122.out] at ho
       have n0_ := am_ (blk_grown (g := gb101) (o := .cells #[.slice A0_0 l0_0.length c0_0] 63 (0, 0)) qz11_ hg (Kd.R_ne HO121.out BK101.out (by decide)))
       have n1_ := am_ (Kd.R_after (ok := (fun _ => True)) qz28_ hg hat)
       have n2_ := am_ (hb)
       have n3_ := am_ (ho)
       clear BK101
       clear HO117
       clear HB
       clear HO121
       have BK101 := n0_
       have HO117 := n1_
       have HB := n2_
       have HO124 := n3_
       clear n0_ n1_ n2_ n3_
       clear ho hb hg hat
       refine hK.out _ _ ((blk_cell BK101.out 0).trans rfl) (fun hHeld => ?_)
       clear hK K
       refine norm_ (a' := ?_) ?_ ?_
       rotate_left
       ·
        show Act.put _ (some 42) _ = _
        simp only [Act.put, List.setIfInBounds_toArray, List.set_cons_zero, List.set_cons_succ, i64_w, i32_w]
        rfl
       refine one_ (i := 5) (N := some 45) #[true, true, true, true, true, true, false, false, false] rfl rfl (one_of HT_.out (by kernel_rfl)) (by decide) (fun K hK => ?_)
       refine goes_ Try.func77 (by kernel_rfl) rfl #[.agg #[.slice A0_0 l0_0.length c0_0], .slice Ao24 t115.length co24] (by rfl) rfl rfl qz9_ ?_
       with_reducible refine (spec_l11Privates.calls kj3 _ _ l0_0 _ _ t115 t125 _ ?side1 ?side2 ?side3 ?side4 A18.out).mono ?_
       (case side1 => exact qc_ (Kd.C_below HR0_0.out HB.out))
       (case side2 => exact HC0_0.out)
       (case side3 => exact qc_ (Kd.R_reads' HO117.out).2.2)
       (case side4 => exact (Kd.R_reads' HO117.out).2.1)
       rintro e w30 ⟨v126, rfl, ho0, hb⟩
       refine ⟨_, rfl, ?_⟩
       have n0_ := am_ (Kd.R_elder' qz28_ (Kd.R_base ho0) hb)
       have n1_ := am_ (Kd.R_elder' (by (with_reducible repeat (first | apply Kd.R_alloc | apply Kd.R_drewN | apply Kd.R_drew)); exact HO124.out) (Kd.R_base ho0) hb)
       have n2_ := am_ (Kd.R_lower (Kd.R_new' (Kd.R_new' ho0 (Kd.R_lt qz28_)) (Kd.R_lt (by (with_reducible repeat (first | apply Kd.R_alloc | apply Kd.R_drewN | apply Kd.R_drew)); exact HO124.out))) (below_size qz10_))
       have n3_ := am_ (blk_below (g := gb101) (o := .cells #[.slice A0_0 l0_0.length c0_0] 63 (0, 0)) qz11_ hb)
       have n4_ := am_ (below_step qz10_ hb)
       clear HO117
       clear HO124
       clear BK101
       clear HB
       have HO117 := n0_
       have HO124 := n1_
       have HO127 := n2_
       have BK101 := n3_
       have HB := n4_
       clear n0_ n1_ n2_ n3_ n4_
       (try clear hb)
       (try clear hb2)
       (try clear hk)
       (try clear hi)
       (try clear ho0)
       refine hK.out _ _ ((blk_cell BK101.out 0).trans rfl) (fun hHeld => ?_)
       clear hK K
       refine norm_ (a' := ?_) ?_ ?_
       rotate_left
       ·
        show Act.put _ (some 45) _ = _
        simp only [Act.put, List.setIfInBounds_toArray, List.set_cons_zero, List.set_cons_succ, i64_w, i32_w]
        rfl
       refine pure_ (i := 6) (N := some 6) (v := ?_) (a' := ?_) #[true, true, true, true, true, true, true, false, false] rfl rfl (any_of HT_.out (by kernel_rfl)) (fun _ _ _ h => h) (Or.inl ⟨(by rfl), ?_⟩) ?_ ?_
       rotate_left
       ·
        intro w'
        go_simp
        with_reducible rfl
       rotate_left
       ·
        simp only [Act.put, List.setIfInBounds_toArray, List.set_cons_zero, List.set_cons_succ, i64_w, i32_w]
        rfl
       refine pure_ (i := 7) (N := some 7) (v := ?_) (a' := ?_) #[true, true, true, true, true, true, true, true, false] rfl rfl (any_of HT_.out (by kernel_rfl)) (fun _ _ _ h => h) (Or.inl ⟨(by rfl), ?_⟩) ?_ ?_
       rotate_left
       ·
        intro w'
        go_simp
        with_reducible rfl
       rotate_left
       ·
        simp only [Act.put, List.setIfInBounds_toArray, List.set_cons_zero, List.set_cons_succ, i64_w, i32_w]
        rfl
       refine pure_ (i := 8) (N := some 8) (v := ?_) (a' := ?_) #[true, true, true, true, true, true, true, true, true] rfl rfl (any_of HT_.out (by kernel_rfl)) (fun _ _ _ h => h) (Or.inl ⟨(by rfl), ?_⟩) ?_ ?_
       rotate_left
       ·
        intro w'
        go_simp
        with_reducible rfl
       rotate_left
       ·
        simp only [Act.put, List.setIfInBounds_toArray, List.set_cons_zero, List.set_cons_succ, i64_w, i32_w]
        rfl
       refine done_ (done_of HT_.out (by kernel_rfl)) ?_
       try go_wp2
       go_ret3
       exact ⟨_, _, qz5_, (by (with_reducible repeat (first | apply Kd.R_alloc | apply Kd.R_drewN | apply Kd.R_drew)); exact Kd.R_mono HO124.out (fun _ hk => hk.2)), (by (with_reducible repeat (first | apply Kd.R_alloc | apply Kd.R_drewN | apply Kd.R_drew)); exact Kd.R_mono HO127.out (fun _ hk => hk.2)), qz10_⟩
      ·
       rw [if_neg c17] at H
       exact absurd H (by simp)
     ·
      replace c16 := Bool.eq_false_iff.mpr c16
      subst c16
      have H1 : (some ((([] : List Int)), (([] : List Int)), 15)) = some (r1, r2, r3) := by rw [if_neg (show ¬ (false = true) by decide)] at H; exact H
      clear H
      have H := H1
      clear H1
      obtain ⟨y128, hy128⟩ : ∃ y_ : List Int, y_ = (([] : List Int)) := ⟨_, rfl⟩
      replace H : (some (y128, (([] : List Int)), 15)) = some (r1, r2, r3) := by first | (rw [hy128]; with_reducible exact H) | (have H2_ := (Option.bind_some _ _).symm.trans H; rw [hy128]; with_reducible exact H2_) | (have H2_ := (Option.bind_some _ _).symm.trans H; with_reducible exact H2_) | with_reducible exact H | (rw [hy128]; exact H) | exact H
      have Ny128 := am_ hy128
      clear hy128
      obtain ⟨y131, hy131⟩ : ∃ y_ : List Int, y_ = (([] : List Int)) := ⟨_, rfl⟩
      replace H : (some (y128, y131, 15)) = some (r1, r2, r3) := by first | (rw [hy131]; with_reducible exact H) | (have H2_ := (Option.bind_some _ _).symm.trans H; rw [hy131]; with_reducible exact H2_) | (have H2_ := (Option.bind_some _ _).symm.trans H; with_reducible exact H2_) | with_reducible exact H | (rw [hy131]; exact H) | exact H
      have Ny131 := am_ hy131
      clear hy131
      simp only [Option.some.injEq, Prod.mk.injEq] at H
      obtain ⟨rfl, rfl, rfl⟩ := H
      have hcz31_0 : wc.cell? ⟨gb101, 0, none⟩ = some (.slice A0_0 l0_0.length c0_0) := (blk_cell BK101.out 0).trans rfl
      have hfz31_0 := blk_frozen BK101.out 0
      go_wp2_with (first | ((with_reducible refine gate_callee (f := 69) rfl ?_); refine goesL_ (some 24) rfl rfl Try.func69 (by kernel_rfl) rfl #[.agg #[.slice A0_0 l0_0.length c0_0], .slice A1 l1.length c1, .slice A2 l2.length c2] rfl qz9_ ?_; (with_reducible refine (spec_l11Ask.calls kj3 _ _ l0_0 _ _ l1 _ _ l2 t108 _ ?side1 ?side2 ?side3 ?side4 ?side5 ?side6 A12.out).mono ?_); (case side1 => exact qc_ (Kd.C_below HR0_0.out HB.out)); (case side2 => exact HC0_0.out); (case side3 => exact qc_ (Kd.C_below HR1.out HB.out)); (case side4 => exact HC1.out); (case side5 => exact qc_ (Kd.C_below HR2.out HB.out)); (case side6 => exact HC2.out); rintro e w32 ⟨rfl, hb⟩; refine ⟨_, rfl, ?_⟩; have n0_ := am_ (blk_below (g := gb101) (o := .cells #[.slice A0_0 l0_0.length c0_0] 63 (0, 0)) qz11_ hb); have n1_ := am_ (below_step qz10_ hb); clear BK101; clear HB; have BK101 := n0_; have HB := n1_; clear n0_ n1_; (try clear hb); (try clear hb2); (try clear hk); (try clear hi); have hcz33_0 : w32.cell? ⟨gb101, 0, none⟩ = some (.slice A0_0 l0_0.length c0_0) := (blk_cell BK101.out 0).trans rfl; have hfz33_0 := blk_frozen BK101.out 0) | ((with_reducible refine gate_callee (f := 70) rfl ?_); refine goesL_ (some 33) rfl rfl Try.func70 (by kernel_rfl) rfl #[.agg #[.slice A0_0 l0_0.length c0_0], .slice A1 l1.length c1, .slice A2 l2.length c2] rfl qz9_ ?_; (with_reducible refine (spec_l11Run.calls kj3 _ _ l0_0 _ _ l1 _ _ l2 t115 _ ?side1 ?side2 ?side3 ?side4 ?side5 ?side6 A14.out).mono ?_); (case side1 => exact qc_ (Kd.C_below HR0_0.out HB.out)); (case side2 => exact HC0_0.out); (case side3 => exact qc_ (Kd.C_below HR1.out HB.out)); (case side4 => exact HC1.out); (case side5 => exact qc_ (Kd.C_below HR2.out HB.out)); (case side6 => exact HC2.out); rintro e w34 ⟨v116, rfl, ho0, hb⟩; refine ⟨_, rfl, ?_⟩; have n0_ := am_ (Kd.R_lower ho0 (below_size qz10_)); have n1_ := am_ (blk_below (g := gb101) (o := .cells #[.slice A0_0 l0_0.length c0_0] 63 (0, 0)) qz11_ hb); have n2_ := am_ (below_step qz10_ hb); clear BK101; clear HB; have HO117 := n0_; have BK101 := n1_; have HB := n2_; clear n0_ n1_ n2_; (try clear hb); (try clear hb2); (try clear hk); (try clear hi); (try clear ho0); have hcz35_0 : w34.cell? ⟨gb101, 0, none⟩ = some (.slice A0_0 l0_0.length c0_0) := (blk_cell BK101.out 0).trans rfl; have hfz35_0 := blk_frozen BK101.out 0; obtain ⟨Ao36, co36, eo36⟩ := Kd.R_slice HO117.out; subst eo36) | ((with_reducible refine gate_callee (f := 71) rfl ?_); refine goesL_ (some 36) rfl rfl Try.func71 (by kernel_rfl) rfl #[.agg #[.slice A0_0 l0_0.length c0_0], .slice Ao36 t115.length co36] rfl qz9_ ?_; (with_reducible refine (spec_l11Fits.calls kj3 _ _ l0_0 _ _ t115 false _ ?side1 ?side2 ?side3 ?side4 A15.out).mono ?_); (case side1 => exact qc_ (Kd.C_below HR0_0.out HB.out)); (case side2 => exact HC0_0.out); (case side3 => exact qc_ (Kd.R_reads' HO117.out).2.2); (case side4 => exact (Kd.R_reads' HO117.out).2.1); rintro e w37 ⟨rfl, hb⟩; refine ⟨_, rfl, ?_⟩; have n0_ := am_ (Kd.R_below qz28_ hb); have n1_ := am_ (blk_below (g := gb101) (o := .cells #[.slice A0_0 l0_0.length c0_0] 63 (0, 0)) qz11_ hb); have n2_ := am_ (below_step qz10_ hb); clear HO117; clear BK101; clear HB; have HO117 := n0_; have BK101 := n1_; have HB := n2_; clear n0_ n1_ n2_; (try clear hb); (try clear hb2); (try clear hk); (try clear hi)) | ((with_reducible refine gate_dst (N := 38) rfl ?_); (try (refine gate_guard (by rfl) ?_; dsimp only)); refine Kd.R_lit (Kd.int .i64) _ 3 ?hg (N := 38) ?hd (xs := ([] : List Int)) (inner := []) (ok := fun _ => True) (okp := fun _ => True) ?hr ?hp (fun _ hk => hk) trivial (Below.refl _ _) (Nat.le_refl _) (by simp) ?_; (case hd => rfl); (case hg => rfl); (case hr => first | (go_simp; done) | (go_simp; rfl)); (case hp => exact (Reps.none _ _)); intro v129 w38 ho39 hb hg_ hnew_; clear hg_ hnew_; (first | rw [← Ny128.out] at ho39 | (simp only [Int.reduceToNat] at ho39; rw [← Ny128.out] at ho39)); have n0_ := am_ (Kd.R_elder' qz28_ (Kd.R_base ho39) hb); have n1_ := am_ (Kd.R_lower (Kd.R_new' ho39 (Kd.R_lt qz28_)) (below_size qz10_)); have n2_ := am_ (blk_below (g := gb101) (o := .cells #[.slice A0_0 l0_0.length c0_0] 63 (0, 0)) qz11_ hb); have n3_ := am_ (below_step qz10_ hb); clear HO117; clear BK101; clear HB; have HO117 := n0_; have HO130 := n1_; have BK101 := n2_; have HB := n3_; clear n0_ n1_ n2_ n3_; clear hb ho39) | ((with_reducible refine gate_dst (N := 39) rfl ?_); (try (refine gate_guard (by rfl) ?_; dsimp only)); refine Kd.R_lit (Kd.int .i64) _ 3 ?hg (N := 39) ?hd (xs := ([] : List Int)) (inner := []) (ok := fun _ => True) (okp := fun _ => True) ?hr ?hp (fun _ hk => hk) trivial (Below.refl _ _) (Nat.le_refl _) (by simp) ?_; (case hd => rfl); (case hg => rfl); (case hr => first | (go_simp; done) | (go_simp; rfl)); (case hp => exact (Reps.none _ _)); intro v132 w40 ho41 hb hg_ hnew_; clear hg_ hnew_; (first | rw [← Ny131.out] at ho41 | (simp only [Int.reduceToNat] at ho41; rw [← Ny131.out] at ho41)); have n0_ := am_ (Kd.R_elder' qz28_ (Kd.R_base ho41) hb); have n1_ := am_ (Kd.R_elder' (by (with_reducible repeat (first | apply Kd.R_alloc | apply Kd.R_drewN | apply Kd.R_drew)); exact HO130.out) (Kd.R_base ho41) hb); have n2_ := am_ (Kd.R_lower (Kd.R_new' (Kd.R_new' ho41 (Kd.R_lt qz28_)) (Kd.R_lt (by (with_reducible repeat (first | apply Kd.R_alloc | apply Kd.R_drewN | apply Kd.R_drew)); exact HO130.out))) (below_size qz10_)); have n3_ := am_ (blk_below (g := gb101) (o := .cells #[.slice A0_0 l0_0.length c0_0] 63 (0, 0)) qz11_ hb); have n4_ := am_ (below_step qz10_ hb); clear HO117; clear HO130; clear BK101; clear HB; have HO117 := n0_; have HO130 := n1_; have HO133 := n2_; have BK101 := n3_; have HB := n4_; clear n0_ n1_ n2_ n3_ n4_; clear hb ho41))
      go_ret3
      exact ⟨_, _, qz5_, (by (with_reducible repeat (first | apply Kd.R_alloc | apply Kd.R_drewN | apply Kd.R_drew)); exact Kd.R_mono HO130.out (fun _ hk => hk.2)), (by (with_reducible repeat (first | apply Kd.R_alloc | apply Kd.R_drewN | apply Kd.R_drew)); exact Kd.R_mono HO133.out (fun _ hk => hk.2)), qz10_⟩
    ·
     rw [if_neg c13] at H
     have c13b0 : (t108 == 0) = false := beq_eq_false_iff_ne.mpr c13
     have c13b1 : (t108 != 0) = true := bne_iff_ne.mpr c13
     obtain ⟨y109, hy109⟩ : ∃ y_ : List Int, y_ = (([] : List Int)) := ⟨_, rfl⟩
     replace H : (some (y109, (([] : List Int)), t108)) = some (r1, r2, r3) := by first | (rw [hy109]; with_reducible exact H) | (have H2_ := (Option.bind_some _ _).symm.trans H; rw [hy109]; with_reducible exact H2_) | (have H2_ := (Option.bind_some _ _).symm.trans H; with_reducible exact H2_) | with_reducible exact H | (rw [hy109]; exact H) | exact H
     have Ny109 := am_ hy109
     clear hy109
     obtain ⟨y112, hy112⟩ : ∃ y_ : List Int, y_ = (([] : List Int)) := ⟨_, rfl⟩
     replace H : (some (y109, y112, t108)) = some (r1, r2, r3) := by first | (rw [hy112]; with_reducible exact H) | (have H2_ := (Option.bind_some _ _).symm.trans H; rw [hy112]; with_reducible exact H2_) | (have H2_ := (Option.bind_some _ _).symm.trans H; with_reducible exact H2_) | with_reducible exact H | (rw [hy112]; exact H) | exact H
     have Ny112 := am_ hy112
     clear hy112
     simp only [Option.some.injEq, Prod.mk.injEq] at H
     obtain ⟨rfl, rfl, rfl⟩ := H
     have hcz42_0 : wc.cell? ⟨gb101, 0, none⟩ = some (.slice A0_0 l0_0.length c0_0) := (blk_cell BK101.out 0).trans rfl
     have hfz42_0 := blk_frozen BK101.out 0
     go_wp2_with (first | ((with_reducible refine gate_callee (f := 69) rfl ?_); refine goesL_ (some 24) rfl rfl Try.func69 (by kernel_rfl) rfl #[.agg #[.slice A0_0 l0_0.length c0_0], .slice A1 l1.length c1, .slice A2 l2.length c2] rfl qz9_ ?_; (with_reducible refine (spec_l11Ask.calls kj3 _ _ l0_0 _ _ l1 _ _ l2 t108 _ ?side1 ?side2 ?side3 ?side4 ?side5 ?side6 A12.out).mono ?_); (case side1 => exact qc_ (Kd.C_below HR0_0.out HB.out)); (case side2 => exact HC0_0.out); (case side3 => exact qc_ (Kd.C_below HR1.out HB.out)); (case side4 => exact HC1.out); (case side5 => exact qc_ (Kd.C_below HR2.out HB.out)); (case side6 => exact HC2.out); rintro e w43 ⟨rfl, hb⟩; refine ⟨_, rfl, ?_⟩; have n0_ := am_ (blk_below (g := gb101) (o := .cells #[.slice A0_0 l0_0.length c0_0] 63 (0, 0)) qz11_ hb); have n1_ := am_ (below_step qz10_ hb); clear BK101; clear HB; have BK101 := n0_; have HB := n1_; clear n0_ n1_; (try clear hb); (try clear hb2); (try clear hk); (try clear hi)) | ((with_reducible refine gate_dst (N := 27) rfl ?_); (try (refine gate_guard (by rfl) ?_; dsimp only)); refine Kd.R_lit (Kd.int .i64) _ 3 ?hg (N := 27) ?hd (xs := ([] : List Int)) (inner := []) (ok := fun _ => True) (okp := fun _ => True) ?hr ?hp (fun _ hk => hk) trivial (Below.refl _ _) (Nat.le_refl _) (by simp) ?_; (case hd => rfl); (case hg => rfl); (case hr => first | (go_simp; done) | (go_simp; rfl)); (case hp => exact (Reps.none _ _)); intro v110 w44 ho45 hb hg_ hnew_; clear hg_ hnew_; (first | rw [← Ny109.out] at ho45 | (simp only [Int.reduceToNat] at ho45; rw [← Ny109.out] at ho45)); have n0_ := am_ (Kd.R_lower ho45 (below_size qz10_)); have n1_ := am_ (blk_below (g := gb101) (o := .cells #[.slice A0_0 l0_0.length c0_0] 63 (0, 0)) qz11_ hb); have n2_ := am_ (below_step qz10_ hb); clear BK101; clear HB; have HO111 := n0_; have BK101 := n1_; have HB := n2_; clear n0_ n1_ n2_; clear hb ho45) | ((with_reducible refine gate_dst (N := 28) rfl ?_); (try (refine gate_guard (by rfl) ?_; dsimp only)); refine Kd.R_lit (Kd.int .i64) _ 3 ?hg (N := 28) ?hd (xs := ([] : List Int)) (inner := []) (ok := fun _ => True) (okp := fun _ => True) ?hr ?hp (fun _ hk => hk) trivial (Below.refl _ _) (Nat.le_refl _) (by simp) ?_; (case hd => rfl); (case hg => rfl); (case hr => first | (go_simp; done) | (go_simp; rfl)); (case hp => exact (Reps.none _ _)); intro v113 w46 ho47 hb hg_ hnew_; clear hg_ hnew_; (first | rw [← Ny112.out] at ho47 | (simp only [Int.reduceToNat] at ho47; rw [← Ny112.out] at ho47)); have n0_ := am_ (Kd.R_elder' qz55_ (Kd.R_base ho47) hb); have n1_ := am_ (Kd.R_lower (Kd.R_new' ho47 (Kd.R_lt qz55_)) (below_size qz10_)); have n2_ := am_ (blk_below (g := gb101) (o := .cells #[.slice A0_0 l0_0.length c0_0] 63 (0, 0)) qz11_ hb); have n3_ := am_ (below_step qz10_ hb); clear HO111; clear BK101; clear HB; have HO111 := n0_; have HO114 := n1_; have BK101 := n2_; have HB := n3_; clear n0_ n1_ n2_ n3_; clear hb ho47))
     go_ret3
     exact ⟨_, _, qz5_, (by (with_reducible repeat (first | apply Kd.R_alloc | apply Kd.R_drewN | apply Kd.R_drew)); exact Kd.R_mono HO111.out (fun _ hk => hk.2)), (by (with_reducible repeat (first | apply Kd.R_alloc | apply Kd.R_drewN | apply Kd.R_drew)); exact Kd.R_mono HO114.out (fun _ hk => hk.2)), qz10_⟩


/-! ### impl_in: function 45 -/
def impl_in.f (a0 : Int) (a1 : Int) (a2 : Int) : Option (Bool) := if a1 ≤ a0 then (some (decide (a0 ≤ a2))) else (some false)
set_option maxHeartbeats 8000000 in
set_option maxRecDepth 100000 in
theorem impl_in.calls (a0 : Int) (a1 : Int) (a2 : Int) (r : Bool) (w : World) (h : impl_in.f a0 a1 a2 = some r) :
  Calls Try.prog 45 #[.int .i64 a0, .int .i64 a1, .int .i64 a2] w fun e w' => e = .returned (.bool r) ∧ Drawn0 w w' := by
 have H : (if a1 ≤ a0 then (some (decide (a0 ≤ a2))) else (some false)) = some r := h
 clear h
 by_cases c4 : a1 ≤ a0
 ·
  rw [if_pos c4] at H
  have c4b0 : decide (a1 ≤ a0) = true := decide_eq_true c4
  clear c4
  obtain rfl := Option.some.inj H
  go_enter Try.func45, Try.ntmps45
  go_wp2
  go_ret
  exact ⟨qz2_, qz6_⟩
 ·
  rw [if_neg c4] at H
  have c4b0 : decide (a1 ≤ a0) = false := decide_eq_false c4
  clear c4
  obtain rfl := Option.some.inj H
  go_enter Try.func45, Try.ntmps45
  go_wp2
  go_ret
  exact ⟨qz2_, qz6_⟩


/-! ### impl_FieldOK: function 53 -/
def impl_FieldOK.f (a0 : Int) : Option (Bool) := (impl_in.f a0 0 2130706432).bind fun t101 => (some t101)
set_option maxHeartbeats 8000000 in
set_option maxRecDepth 100000 in
theorem impl_FieldOK.calls (a0 : Int) (r : Bool) (w : World) (h : impl_FieldOK.f a0 = some r) :
  Calls Try.prog 53 #[.int .i64 a0] w fun e w' => e = .returned (.bool r) ∧ Drawn0 w w' := by
 have H : ((impl_in.f a0 0 2130706432).bind fun t101 => (some t101)) = some r := h
 clear h
 replace H := Option.bind_eq_some_iff.mp H
 obtain ⟨t101, A20, H⟩ := H
 replace H : (some t101) = some r := H
 have A2 := am_ A20
 clear A20
 obtain rfl := Option.some.inj H
 go_enter Try.func53, Try.ntmps53
 go_wp2_with (first | ((with_reducible refine gate_callee (f := 45) rfl ?_); refine goesL_ (some 4) rfl rfl Try.func45 (by kernel_rfl) rfl #[.int .i64 a0, .int .i64 0, .int .i64 2130706432] rfl qz9_ ?_; (with_reducible refine (impl_in.calls a0 0 2130706432 t101 _ A2.out).mono ?_); rintro e w' ⟨rfl, ⟨nd, rfl⟩⟩; refine ⟨_, rfl, ?_⟩))
 go_ret
 exact ⟨qz2_, qz6_⟩


/-! ### impl_are_int_FieldOK: function 52 -/
def impl_are_int_FieldOK.p (x : Int) : Bool := (impl_FieldOK.f (x)).getD false
theorem impl_are_int_FieldOK.p_some (x : Int) : impl_FieldOK.f (x) = some (impl_are_int_FieldOK.p x) := by
 unfold impl_are_int_FieldOK.p
 have : ∃ b, impl_FieldOK.f (x) = some b := by
  simp only [impl_FieldOK.f, impl_in.f]
  repeat' (first | exact ⟨_, rfl⟩ | (split <;> try exact ⟨_, rfl⟩) | (simp only [Option.bind_some]))
 obtain ⟨b, hb⟩ := this
 rw [hb]; rfl
set_option maxHeartbeats 800000 in
theorem impl_are_int_FieldOK.clo (x : Int) (r : Bool) (hr : impl_FieldOK.f (x) = some r) (g : Nat) (w : World) (hg : w.cell? ⟨g, 0, none⟩ = some (.func (.func 53) #[] #[])) :
  Calls Try.prog 85 #[.int .i64 (x), .pointer (some ⟨g, 0, none⟩)] w fun e w' => e = .returned (.bool (!r)) ∧ Below w.heap.size w w' := by
 have hlt : g < w.heap.size := World.block_lt_of_cell? w _ hg
 have HB := am_ (Below.refl w.heap.size w)
 go_enter Try.func85, Try.ntmps85
 go_wp2_with (go_at_call 53; (refine (impl_FieldOK.calls (x) r _ hr).mono ?_); rintro e w' ⟨rfl, ⟨nd, rfl⟩⟩)
 go_ret
 exact ⟨(by first | rfl | simp), (by repeat (first | (with_reducible first | exact HB.out | apply below_alloc | apply pw_below_drewN | apply below_drew1) | exact HB.out | refine below_step ?_ hb))⟩

def impl_are_int_FieldOK.Idx (l : List (Int)) (w : World) (e : Ending) (w' : World) : Prop := ∃ j : Int, e = .returned (.int .i64 j) ∧ (decide (0 ≤ j) = !(l.all impl_are_int_FieldOK.p)) ∧ Below w.heap.size w w'
theorem impl_are_int_FieldOK.all_snoc (l : List (Int)) (k : Nat) (hk : k < l.length) (h : (l.take k).all impl_are_int_FieldOK.p = true) (h2 : impl_are_int_FieldOK.p (l.getD k 0) = true) : (l.take (k + 1)).all impl_are_int_FieldOK.p = true := by
 rw [List.take_succ_eq_append_getElem hk, List.all_append, h]
 simp [List.getD_eq_getElem?_getD, hk] at h2
 simp [h2]
theorem impl_are_int_FieldOK.all_not (l : List (Int)) (k : Nat) (hk : k < l.length) (h2 : impl_are_int_FieldOK.p (l.getD k 0) = false) : l.all impl_are_int_FieldOK.p = false := by
 rw [List.all_eq_false]
 simp [List.getD_eq_getElem?_getD, hk] at h2
 exact ⟨l[k], List.getElem_mem hk, (by simp [h2])⟩

set_option maxHeartbeats 800000 in
theorem impl_are_int_FieldOK.idx (A0 : Option Addr) (c0 : Nat) (l0 : List (Int)) (g : Nat) (w : World) (hr0 : Kd.C (Kd.int .i64) w A0 l0.length l0) (hc0 : l0.length ≤ c0) (hm : l0.length ≤ 9223372036854775807) (hg : w.cell? ⟨g, 0, none⟩ = some (.func (.func 53) #[] #[])) :
  Calls Try.prog 102 #[.slice A0 l0.length c0, .func (.func 85) #[] #[.pointer (some ⟨g, 0, none⟩)]] w (impl_are_int_FieldOK.Idx l0 w) := by
 have HR0 := am_ hr0
 have HC0 := am_ hc0
 have HG := am_ hg
 clear hr0 hc0 hg
 have HB := am_ (Below.refl w.heap.size w)
 go_enter Try.func102, Try.ntmps102
 go_wp2
 go_loopg [8] l0.length (fun kq v8 w' => ∃ k : Nat, k + kq = l0.length ∧ v8 = .int .i64 k ∧ Aside0 ((l0.take k).all impl_are_int_FieldOK.p = true) ∧ Aside0 (Below w.heap.size w w'))
 case atStart => exact ⟨0, by omega, by first | rfl | simp, ⟨rfl⟩, ⟨qz1_⟩⟩
 case round =>
  obtain ⟨k, hk, rfl, HA, HB⟩ := hrel
  cases gk with
  | zero =>
   have hge : decide ((k : Int) < (l0.length : Int)) = false := decide_eq_false (by omega)
   have hge2 : decide (k < l0.length) = false := decide_eq_false (by omega)
   have hkk : l0.take k = l0 := List.take_of_length_le (by omega)
   have HA2 := am_ (hkk ▸ HA.out)
   clear HA hkk
   go_wp2
   go_ret
   refine ⟨-1, rfl, ?_, qz1_⟩
   rw [HA2.out]
   rfl
  | succ k1 =>
   have hlt : decide ((k : Int) < (l0.length : Int)) = true := decide_eq_true (by omega)
   have hlt2 : decide (k < l0.length) = true := decide_eq_true (by omega)
   have p_ : 0 ≤ (k : Int) := by omega
   have q_ : (k : Int) < (l0.length : Int) := by omega
   obtain ⟨ad, e_, hx_0⟩ := Kd.at_int HR0.out k p_ q_
   cases e_
   replace hx_0 := (HB.out.cell (World.block_lt_of_cell? w _ hx_0)).trans hx_0
   simp only [Int.toNat_natCast] at hx_0
   have hgc := am_ ((HB.out.cell (World.block_lt_of_cell? w _ HG.out)).trans HG.out)
   have hkl : k < l0.length := by omega
   have hrd : (rd l0 (k : Int)) = l0.getD k 0 := rfl
   by_cases hp : impl_are_int_FieldOK.p (rd l0 (k : Int)) = true
   ·
    have hs := am_ ((impl_are_int_FieldOK.p_some (rd l0 (k : Int))).trans (congrArg some hp))
    have HA2 := am_ (impl_are_int_FieldOK.all_snoc l0 k hkl HA.out (hrd ▸ hp))
    clear hp HA hrd
    go_wp2_with (go_at_call 85; (refine (impl_are_int_FieldOK.clo (rd l0 (k : Int)) true hs.out g _ hgc.out).mono ?_); rintro e w' ⟨rfl, hb⟩; have n0_ := am_ (below_step qz1_ hb); clear HB; have HB := n0_; clear n0_; clear hb)
    go_roundg k1
    case measure => omega
    case rel => exact ⟨k + 1, by omega, by first | rfl | go_num, HA2, ⟨qz1_⟩⟩
   ·
    replace hp := Bool.eq_false_iff.mpr hp
    have hs := am_ ((impl_are_int_FieldOK.p_some (rd l0 (k : Int))).trans (congrArg some hp))
    have HA2 := am_ (impl_are_int_FieldOK.all_not l0 k hkl (hrd ▸ hp))
    clear hp HA hrd
    go_wp2_with (go_at_call 85; (refine (impl_are_int_FieldOK.clo (rd l0 (k : Int)) false hs.out g _ hgc.out).mono ?_); rintro e w' ⟨rfl, hb⟩; have n0_ := am_ (below_step qz1_ hb); clear HB; have HB := n0_; clear n0_; clear hb)
    go_ret
    exact ⟨(k : Int), rfl, (by rw [HA2.out]; simp), qz1_⟩
set_option maxHeartbeats 800000 in
theorem impl_are_int_FieldOK.con (A0 : Option Addr) (c0 : Nat) (l0 : List (Int)) (g : Nat) (w : World) (hr0 : Kd.C (Kd.int .i64) w A0 l0.length l0) (hc0 : l0.length ≤ c0) (hm : l0.length ≤ 9223372036854775807) (hg : w.cell? ⟨g, 0, none⟩ = some (.func (.func 53) #[] #[])) :
  Calls Try.prog 84 #[.slice A0 l0.length c0, .func (.func 85) #[] #[.pointer (some ⟨g, 0, none⟩)]] w fun e w' => e = .returned (.bool (!(l0.all impl_are_int_FieldOK.p))) ∧ Below w.heap.size w w' := by
 have HR0 := am_ hr0
 have HC0 := am_ hc0
 have HG := am_ hg
 clear hr0 hc0 hg
 go_enter Try.func84, Try.ntmps84
 go_wp2_with (go_at_call 102; (refine (impl_are_int_FieldOK.idx A0 c0 l0 g _ HR0.out HC0.out hm HG.out).mono ?_); rintro e w' ⟨j, rfl, hj, hb⟩; have HJ := am_ hj; clear hj)
 go_ret
 exact ⟨(by rw [← HJ.out]; rfl), (by repeat (first | exact hb | exact Below.refl _ _ | apply below_alloc | apply pw_below_drewN | apply below_drew1))⟩
def impl_are_int_FieldOK.f (l1 : List (Int)) : Option (Bool) := some (l1.all impl_are_int_FieldOK.p)
set_option maxHeartbeats 800000 in
theorem impl_are_int_FieldOK.calls (A1 : Option Addr) (c1 : Nat) (l1 : List (Int)) (r : Bool) (w : World) (hr1 : Kd.C (Kd.int .i64) w A1 l1.length l1) (hc1 : l1.length ≤ c1) (h : impl_are_int_FieldOK.f l1 = some r) :
  Calls Try.prog 52 #[(Value.func (.func 53) #[] #[]), .slice A1 l1.length c1] w fun e w' => e = .returned (.bool r) ∧ Below w.heap.size w w' := by
 unfold impl_are_int_FieldOK.f at h
 have hm : l1.length ≤ 9223372036854775807 := hr1.2.1
 ·
  obtain rfl := Option.some.inj h
  have HR1 := am_ hr1
  have HC1 := am_ hc1
  clear hr1 hc1 h
  have HB := am_ (Below.refl w.heap.size w)
  go_enter Try.func52, Try.ntmps52
  go_wp2_with (go_at_call 84; (refine (impl_are_int_FieldOK.con A1 c1 l1 w.heap.size _ (Kd.C_below HR1.out qz1_) HC1.out hm (by first | rfl | simp)).mono ?_); rintro e w' ⟨rfl, hb⟩; have n0_ := am_ (below_step qz1_ hb); clear HB; have HB := n0_; clear n0_; clear hb)
  go_ret
  exact ⟨(by first | rfl | simp), qz1_⟩


/-! ### impl_Circuit_countOf: function 97 -/
def impl_Circuit_countOf.l0 : Nat → Int → Int → List (S115) → Int → Int → Option (Int)
 | 0, _, _, _, _, _ => none
 | k + 1, x1, x5, x9, x10, x11 => if x11 < x10 then (if 0 ≤ x11 then (if x11 < (x9.length : Int) then (if ((rd_T115 x9 x11).f0) = x1 then (impl_Circuit_countOf.l0 k x1 (wrap64 (x5 + 1)) x9 x10 (wrap64 (x11 + 1))) else (impl_Circuit_countOf.l0 k x1 x5 x9 x10 (wrap64 (x11 + 1)))) else (none)) else (none)) else (some x5)
def impl_Circuit_countOf.f (k : Nat) (l0_0 : List (S115)) (a1 : Int) : Option (Int) := impl_Circuit_countOf.l0 k a1 0 l0_0 (l0_0.length : Int) 0
theorem impl_Circuit_countOf.mono_l : ∀ k, (∀ y0 y1 y2 y3 y4, LeO (impl_Circuit_countOf.l0 k y0 y1 y2 y3 y4) (impl_Circuit_countOf.l0 (k + 1) y0 y1 y2 y3 y4))
 | 0 => fun _ _ _ _ _ r h => by simp [impl_Circuit_countOf.l0] at h
 | k + 1 => by
  have ih0 := impl_Circuit_countOf.mono_l k
  ·
   intro y0 y1 y2 y3 y4
   unfold impl_Circuit_countOf.l0
   repeat' first
   | (with_reducible exact ih0 _ _ _ _ _)
   | (with_reducible exact LeO.refl _)
   | (with_reducible exact LeO.none _)
   | (with_reducible refine LeO.ite ?_ ?_)
   | (with_reducible refine LeO.bind ?_ (fun _ => ?_))
   | exact ih0 _ _ _ _ _
   | exact LeO.none _
   | refine LeO.ite ?_ ?_
   | refine LeO.bind ?_ (fun _ => ?_)
theorem impl_Circuit_countOf.mono : ∀ a0 a1 k, LeO (impl_Circuit_countOf.f k a0 a1) (impl_Circuit_countOf.f (k + 1) a0 a1) := by
 intro a0 a1 k
 have ih0 := impl_Circuit_countOf.mono_l k
 unfold impl_Circuit_countOf.f
 repeat' first
   | (with_reducible exact ih0 _ _ _ _ _)
   | (with_reducible exact LeO.refl _)
   | (with_reducible exact LeO.none _)
   | (with_reducible refine LeO.ite ?_ ?_)
   | (with_reducible refine LeO.bind ?_ (fun _ => ?_))
   | exact ih0 _ _ _ _ _
   | exact LeO.none _
   | refine LeO.ite ?_ ?_
   | refine LeO.bind ?_ (fun _ => ?_)
set_option maxHeartbeats 8000000 in
set_option maxRecDepth 100000 in
theorem impl_Circuit_countOf.calls (k : Nat) (A0_0 : Option Addr) (c0_0 : Nat) (l0_0 : List (S115)) (a1 : Int) (r : Int) (w : World) (hr0_0 : Kd.C k115 w A0_0 l0_0.length l0_0) (hc0_0 : l0_0.length ≤ c0_0) (h : impl_Circuit_countOf.f k l0_0 a1 = some r) :
  Calls Try.prog 97 #[.agg #[.slice A0_0 l0_0.length c0_0], .int .i64 a1] w fun e w' => e = .returned (.int .i64 r) ∧ Below w.heap.size w w' := by
 have hu63 := Try.underlying63
 have hu115 := Try.underlying115
 have HR0_0 := am_ hr0_0
 have HC0_0 := am_ hc0_0
 clear hr0_0 hc0_0
 have HB := am_ (Below.refl w.heap.size w)
 have H : (impl_Circuit_countOf.l0 k a1 0 l0_0 (l0_0.length : Int) 0) = some r := h
 clear h
 have H' := am_ H
 clear H
 go_enter Try.func97, Try.ntmps97
 go_wp2_with (first | ((with_reducible refine gate_dst (N := 2) rfl ?_); refine box_event ?hg (N := 2) ?hd (cs := #[.slice A0_0 l0_0.length c0_0]) (t := 63) ?hr ?_; (case hd => rfl); (case hg => rfl); (case hr => first | (go_simp; done) | (go_simp; rfl)); intro gb101 hg w3 hbox hb; have n0_ := am_ (below_step qz1_ hb); have n1_ := am_ (hbox); have n2_ := am_ ((by rw [hg]; exact (below_size qz1_) : w.heap.size ≤ gb101)); have n3_ := am_ ((by rw [hg]; exact (below_size qz1_) : w.heap.size ≤ gb101)); clear HB; have HB := n0_; have BK101 := n1_; have GW101 := n2_; have GE101 := n3_; clear n0_ n1_ n2_ n3_; clear hb hbox hg; have hcz4_0 : w3.cell? ⟨gb101, 0, none⟩ = some (.slice A0_0 l0_0.length c0_0) := (blk_cell BK101.out 0).trans rfl; have hfz4_0 := blk_frozen BK101.out 0))
 go_loopg [5, 11] k (fun kq v5 v11 w' => ∃ (x5_1 : Int) (x11_1 : Int), v5 = .int .i64 x5_1 ∧ v11 = .int .i64 x11_1 ∧ Aside0 (impl_Circuit_countOf.l0 kq a1 x5_1 l0_0 (l0_0.length : Int) x11_1 = some r) ∧ Aside0 (kq ≤ k) ∧ Aside0 (w'.heap[gb101]? = some (.cells #[(.slice A0_0 l0_0.length c0_0)] 63 (0, 0))) ∧ Aside0 (Below w.heap.size w w'))
 case atStart => exact ⟨(0), (0), qz2_, qz2_, H', ⟨Nat.le_refl _⟩, ⟨qz11_⟩, ⟨qz10_⟩⟩
 case round =>
  clear H'
  try clear p2
  try clear hcz4_0
  try clear hfz4_0
  obtain ⟨x5_1, x11_1, rfl, rfl, HA, HK1, BK101, HB⟩ := hrel
  cases gk with
  | zero => exact absurd HA.out (by simp [impl_Circuit_countOf.l0])
  | succ k1 =>
   have H := HA.out
   clear HA
   simp only [impl_Circuit_countOf.l0] at H
   by_cases c5 : x11_1 < (l0_0.length : Int)
   ·
    rw [if_pos c5] at H
    have c5b0 : decide (x11_1 < (l0_0.length : Int)) = true := decide_eq_true c5
    clear c5
    by_cases c6 : 0 ≤ x11_1
    ·
     rw [if_pos c6] at H
     have c6b0 : decide (0 ≤ x11_1) = true := decide_eq_true c6
     clear c6
     by_cases c7 : x11_1 < (l0_0.length : Int)
     ·
      rw [if_pos c7] at H
      have c7b0 : decide (x11_1 < (l0_0.length : Int)) = true := decide_eq_true c7
      clear c7
      by_cases c8 : ((rd_T115 l0_0 x11_1).f0) = a1
      ·
       rw [if_pos c8] at H
       have c8b0 : (((rd_T115 l0_0 x11_1).f0) == a1) = true := beq_iff_eq.mpr c8
       have c8b1 : (((rd_T115 l0_0 x11_1).f0) != a1) = false := bne_eq_false_iff_eq.mpr c8
       clear c8
       have H' := am_ H
       clear H
       have p102 : 0 ≤ (x11_1 : Int) := of_decide_eq_true qz0_
       have q102 : x11_1 < (l0_0.length : Int) := of_decide_eq_true qz0_
       obtain ⟨ad102, e102, hx102_0, hx102_1, hx102_2, hx102_3⟩ := at_T115 HR0_0.out x11_1 p102 q102
       cases e102
       replace hx102_0 := (HB.out.cell (World.block_lt_of_cell? w _ hx102_0)).trans hx102_0
       replace hx102_1 := (HB.out.cell (World.block_lt_of_cell? w _ hx102_1)).trans hx102_1
       replace hx102_2 := (HB.out.cell (World.block_lt_of_cell? w _ hx102_2)).trans hx102_2
       replace hx102_3 := (HB.out.cell (World.block_lt_of_cell? w _ hx102_3)).trans hx102_3
       replace p102 := eq_true p102
       replace q102 := eq_true q102
       go_wp2_with (first | ((with_reducible refine gate_dst (N := 7) rfl ?_); refine box_event ?hg (N := 7) ?hd (cs := #[.int .i64 0, .int .i64 0, .int .i64 0, .int .i64 0]) (t := 115) ?hr ?_; (case hd => rfl); (case hg => rfl); (case hr => first | (go_simp; done) | (go_simp; rfl)); intro gb103 hg w9 hbox hb; have n0_ := am_ (blk_below (g := gb101) (o := .cells #[.slice (some ad102) l0_0.length c0_0] 63 (0, 0)) qz11_ hb); have n1_ := am_ (below_step qz10_ hb); have n2_ := am_ (hbox); have n3_ := am_ ((by rw [hg]; exact (below_size qz10_) : w.heap.size ≤ gb103)); have n4_ := am_ ((by rw [hg]; exact (below_size qz10_) : w.heap.size ≤ gb103)); have n5_ := am_ ((by rw [hg]; exact Nat.ne_of_lt (blk_lt (g := gb101) (o := .cells #[.slice (some ad102) l0_0.length c0_0] 63 (0, 0)) qz11_) : gb101 ≠ gb103)); have n6_ := am_ ((by rw [hg]; exact Nat.ne_of_gt (blk_lt (g := gb101) (o := .cells #[.slice (some ad102) l0_0.length c0_0] 63 (0, 0)) qz11_) : gb103 ≠ gb101)); clear BK101; clear HB; have BK101 := n0_; have HB := n1_; have BK103 := n2_; have GW103 := n3_; have GE103 := n4_; have NB101_103 := n5_; have NB103_101 := n6_; clear n0_ n1_ n2_ n3_ n4_ n5_ n6_; clear hb hbox hg; have hnb10 := NB103_101.out; have hnc10 := NB101_103.out; have hcz11_0 : w9.cell? ⟨gb103, 0, none⟩ = some (.int .i64 0) := (blk_cell BK103.out 0).trans rfl; have hcz11_1 : w9.cell? ⟨gb103, 1, none⟩ = some (.int .i64 0) := (blk_cell BK103.out 1).trans rfl; have hcz11_2 : w9.cell? ⟨gb103, 2, none⟩ = some (.int .i64 0) := (blk_cell BK103.out 2).trans rfl; have hcz11_3 : w9.cell? ⟨gb103, 3, none⟩ = some (.int .i64 0) := (blk_cell BK103.out 3).trans rfl; have hfz11_0 := blk_frozen BK103.out 0; have hfz11_1 := blk_frozen BK103.out 1; have hfz11_2 := blk_frozen BK103.out 2; have hfz11_3 := blk_frozen BK103.out 3))
       go_roundg k1
       case measure => have := HK1.out; omega
       case rel => exact ⟨(wrap64 (x5_1 + 1)), (wrap64 (x11_1 + 1)), qz2_, qz2_, H', ⟨qz3_⟩, ⟨qz53_⟩, ⟨qz52_⟩⟩
      ·
       rw [if_neg c8] at H
       have c8b0 : (((rd_T115 l0_0 x11_1).f0) == a1) = false := beq_eq_false_iff_ne.mpr c8
       have c8b1 : (((rd_T115 l0_0 x11_1).f0) != a1) = true := bne_iff_ne.mpr c8
       have H' := am_ H
       clear H
       have p102 : 0 ≤ (x11_1 : Int) := of_decide_eq_true qz0_
       have q102 : x11_1 < (l0_0.length : Int) := of_decide_eq_true qz0_
       obtain ⟨ad102, e102, hx102_0, hx102_1, hx102_2, hx102_3⟩ := at_T115 HR0_0.out x11_1 p102 q102
       cases e102
       replace hx102_0 := (HB.out.cell (World.block_lt_of_cell? w _ hx102_0)).trans hx102_0
       replace hx102_1 := (HB.out.cell (World.block_lt_of_cell? w _ hx102_1)).trans hx102_1
       replace hx102_2 := (HB.out.cell (World.block_lt_of_cell? w _ hx102_2)).trans hx102_2
       replace hx102_3 := (HB.out.cell (World.block_lt_of_cell? w _ hx102_3)).trans hx102_3
       replace p102 := eq_true p102
       replace q102 := eq_true q102
       go_wp2_with (first | ((with_reducible refine gate_dst (N := 7) rfl ?_); refine box_event ?hg (N := 7) ?hd (cs := #[.int .i64 0, .int .i64 0, .int .i64 0, .int .i64 0]) (t := 115) ?hr ?_; (case hd => rfl); (case hg => rfl); (case hr => first | (go_simp; done) | (go_simp; rfl)); intro gb103 hg w12 hbox hb; have n0_ := am_ (blk_below (g := gb101) (o := .cells #[.slice (some ad102) l0_0.length c0_0] 63 (0, 0)) qz11_ hb); have n1_ := am_ (below_step qz10_ hb); have n2_ := am_ (hbox); have n3_ := am_ ((by rw [hg]; exact (below_size qz10_) : w.heap.size ≤ gb103)); have n4_ := am_ ((by rw [hg]; exact (below_size qz10_) : w.heap.size ≤ gb103)); have n5_ := am_ ((by rw [hg]; exact Nat.ne_of_lt (blk_lt (g := gb101) (o := .cells #[.slice (some ad102) l0_0.length c0_0] 63 (0, 0)) qz11_) : gb101 ≠ gb103)); have n6_ := am_ ((by rw [hg]; exact Nat.ne_of_gt (blk_lt (g := gb101) (o := .cells #[.slice (some ad102) l0_0.length c0_0] 63 (0, 0)) qz11_) : gb103 ≠ gb101)); clear BK101; clear HB; have BK101 := n0_; have HB := n1_; have BK103 := n2_; have GW103 := n3_; have GE103 := n4_; have NB101_103 := n5_; have NB103_101 := n6_; clear n0_ n1_ n2_ n3_ n4_ n5_ n6_; clear hb hbox hg; have hnb13 := NB103_101.out; have hnc13 := NB101_103.out; have hcz14_0 : w12.cell? ⟨gb103, 0, none⟩ = some (.int .i64 0) := (blk_cell BK103.out 0).trans rfl; have hcz14_1 : w12.cell? ⟨gb103, 1, none⟩ = some (.int .i64 0) := (blk_cell BK103.out 1).trans rfl; have hcz14_2 : w12.cell? ⟨gb103, 2, none⟩ = some (.int .i64 0) := (blk_cell BK103.out 2).trans rfl; have hcz14_3 : w12.cell? ⟨gb103, 3, none⟩ = some (.int .i64 0) := (blk_cell BK103.out 3).trans rfl; have hfz14_0 := blk_frozen BK103.out 0; have hfz14_1 := blk_frozen BK103.out 1; have hfz14_2 := blk_frozen BK103.out 2; have hfz14_3 := blk_frozen BK103.out 3))
       go_roundg k1
       case measure => have := HK1.out; omega
       case rel => exact ⟨(x5_1), (wrap64 (x11_1 + 1)), qz2_, qz2_, H', ⟨qz3_⟩, ⟨qz53_⟩, ⟨qz52_⟩⟩
     ·
      rw [if_neg c7] at H
      exact absurd H (by simp)
    ·
     rw [if_neg c6] at H
     exact absurd H (by simp)
   ·
    rw [if_neg c5] at H
    have c5b0 : decide (x11_1 < (l0_0.length : Int)) = false := decide_eq_false c5
    clear c5
    obtain rfl := Option.some.inj H
    go_wp2
    go_ret
    exact ⟨qz5_, qz10_⟩

end Go.Proofs.Ytekijbcblajjbaa.PT
end
section
namespace Go.Proofs.Ytekijbcblajjbaa.PT
open Go.RowKit Go.Proofs.YtekijbcblajjbaaW.PrintWords Go.Proofs.YtekijbcblajjbaaW.PrintLast Go.Proofs.YtekijbcblajjbaaW.PrintMore
attribute [local go_sem] max2_int min2_int max_two min_two max_three min_three max_four min_four   -- for this text's walks alone
set_option linter.unusedVariables false
set_option linter.unusedSimpArgs false

/-! ### impl_isGate: function 107 -/
def impl_isGate.j0 : Nat → Int → Bool → Bool → Bool → Int → Bool → Int → Int → Int → Int → Option (Bool)
 | 0, _, _, _, _, _, _, _, _, _, _ => none
 | k + 1, x1, x5, x6, x7, x18, x24, x102000, x102001, x102002, x102003 => if x24 = true then ((impl_in.f x102001 0 (wrap64 (x1 - 1))).bind fun t104 => ((impl_in.f x102002 0 (wrap64 (x1 - 1))).bind fun t105 => ((impl_in.f x102000 1 8).bind fun t106 => (if t106 = true then (if t104 = true then (if t105 = true then (some x7) else (some false)) else (some false)) else (some false))))) else (if x18 = 8 then ((impl_in.f x102001 0 (wrap64 (x1 - 1))).bind fun t107 => ((impl_in.f x102000 1 8).bind fun t108 => (if t108 = true then (if t107 = true then (if x6 = true then (some x7) else (some false)) else (some false)) else (some false)))) else ((impl_in.f x102000 1 8).bind fun t109 => (if t109 = true then (if x5 = true then (if x6 = true then (some x7) else (some false)) else (some false)) else (some false))))
def impl_isGate.f (k : Nat) (a0_0 : Int) (a0_1 : Int) (a0_2 : Int) (a0_3 : Int) (a1 : Int) : Option (Bool) := if a0_0 = 3 then ((impl_FieldOK.f a0_3).bind fun t102 => ((impl_in.f a0_0 1 8).bind fun t103 => (if t103 = true then (if a0_1 = 0 then (if a0_2 = 0 then (some t102) else (some false)) else (some false)) else (some false)))) else (if a0_0 = 4 then (impl_isGate.j0 k a1 (a0_1 == 0) (a0_2 == 0) (a0_3 == 0) a0_0 (a0_0 == 4) a0_0 a0_1 a0_2 a0_3) else (if a0_0 = 5 then (impl_isGate.j0 k a1 (a0_1 == 0) (a0_2 == 0) (a0_3 == 0) a0_0 (a0_0 == 5) a0_0 a0_1 a0_2 a0_3) else (if a0_0 = 6 then (impl_isGate.j0 k a1 (a0_1 == 0) (a0_2 == 0) (a0_3 == 0) a0_0 (a0_0 == 6) a0_0 a0_1 a0_2 a0_3) else (impl_isGate.j0 k a1 (a0_1 == 0) (a0_2 == 0) (a0_3 == 0) a0_0 (a0_0 == 7) a0_0 a0_1 a0_2 a0_3))))
theorem impl_isGate.mono_l : ∀ k, (∀ y0 y1 y2 y3 y4 y5 y6 y7 y8 y9, LeO (impl_isGate.j0 k y0 y1 y2 y3 y4 y5 y6 y7 y8 y9) (impl_isGate.j0 (k + 1) y0 y1 y2 y3 y4 y5 y6 y7 y8 y9))
 | 0 => fun _ _ _ _ _ _ _ _ _ _ r h => by simp [impl_isGate.j0] at h
 | k + 1 => by
  have ih0 := impl_isGate.mono_l k
  ·
   intro y0 y1 y2 y3 y4 y5 y6 y7 y8 y9
   unfold impl_isGate.j0
   repeat' first
   | (with_reducible exact ih0 _ _ _ _ _ _ _ _ _ _)
   | (with_reducible exact LeO.refl _)
   | (with_reducible exact LeO.none _)
   | (with_reducible refine LeO.ite ?_ ?_)
   | (with_reducible refine LeO.bind ?_ (fun _ => ?_))
   | exact ih0 _ _ _ _ _ _ _ _ _ _
   | exact LeO.none _
   | refine LeO.ite ?_ ?_
   | refine LeO.bind ?_ (fun _ => ?_)
theorem impl_isGate.mono : ∀ a0 a1 a2 a3 a4 k, LeO (impl_isGate.f k a0 a1 a2 a3 a4) (impl_isGate.f (k + 1) a0 a1 a2 a3 a4) := by
 intro a0 a1 a2 a3 a4 k
 have ih0 := impl_isGate.mono_l k
 unfold impl_isGate.f
 repeat' first
   | (with_reducible exact ih0 _ _ _ _ _ _ _ _ _ _)
   | (with_reducible exact LeO.refl _)
   | (with_reducible exact LeO.none _)
   | (with_reducible refine LeO.ite ?_ ?_)
   | (with_reducible refine LeO.bind ?_ (fun _ => ?_))
   | exact ih0 _ _ _ _ _ _ _ _ _ _
   | exact LeO.none _
   | refine LeO.ite ?_ ?_
   | refine LeO.bind ?_ (fun _ => ?_)
set_option maxHeartbeats 8000000 in
set_option maxRecDepth 100000 in
theorem impl_isGate.calls (k : Nat) (a0_0 : Int) (a0_1 : Int) (a0_2 : Int) (a0_3 : Int) (a1 : Int) (r : Bool) (w : World) (h : impl_isGate.f k a0_0 a0_1 a0_2 a0_3 a1 = some r) :
  Calls Try.prog 107 #[.agg #[.int .i64 a0_0, .int .i64 a0_1, .int .i64 a0_2, .int .i64 a0_3], .int .i64 a1] w fun e w' => e = .returned (.bool r) ∧ Below w.heap.size w w' := by
 have hu115 := Try.underlying115
 have HB := am_ (Below.refl w.heap.size w)
 have H : (if a0_0 = 3 then ((impl_FieldOK.f a0_3).bind fun t102 => ((impl_in.f a0_0 1 8).bind fun t103 => (if t103 = true then (if a0_1 = 0 then (if a0_2 = 0 then (some t102) else (some false)) else (some false)) else (some false)))) else (if a0_0 = 4 then (impl_isGate.j0 k a1 (a0_1 == 0) (a0_2 == 0) (a0_3 == 0) a0_0 (a0_0 == 4) a0_0 a0_1 a0_2 a0_3) else (if a0_0 = 5 then (impl_isGate.j0 k a1 (a0_1 == 0) (a0_2 == 0) (a0_3 == 0) a0_0 (a0_0 == 5) a0_0 a0_1 a0_2 a0_3) else (if a0_0 = 6 then (impl_isGate.j0 k a1 (a0_1 == 0) (a0_2 == 0) (a0_3 == 0) a0_0 (a0_0 == 6) a0_0 a0_1 a0_2 a0_3) else (impl_isGate.j0 k a1 (a0_1 == 0) (a0_2 == 0) (a0_3 == 0) a0_0 (a0_0 == 7) a0_0 a0_1 a0_2 a0_3))))) = some r := h
 clear h
 by_cases c3 : a0_0 = 3
 ·
  rw [if_pos c3] at H
  have c3b0 : (a0_0 == 3) = true := beq_iff_eq.mpr c3
  have c3b1 : (a0_0 != 3) = false := bne_eq_false_iff_eq.mpr c3
  clear c3
  replace H := Option.bind_eq_some_iff.mp H
  obtain ⟨t102, A40, H⟩ := H
  replace H : ((impl_in.f a0_0 1 8).bind fun t103 => (if t103 = true then (if a0_1 = 0 then (if a0_2 = 0 then (some t102) else (some false)) else (some false)) else (some false))) = some r := H
  have A4 := am_ A40
  clear A40
  replace H := Option.bind_eq_some_iff.mp H
  obtain ⟨t103, A50, H⟩ := H
  replace H : (if t103 = true then (if a0_1 = 0 then (if a0_2 = 0 then (some t102) else (some false)) else (some false)) else (some false)) = some r := H
  have A5 := am_ A50
  clear A50
  by_cases c6 : t103 = true
  ·
   subst c6
   have H1 : (if a0_1 = 0 then (if a0_2 = 0 then (some t102) else (some false)) else (some false)) = some r := by rw [if_pos rfl] at H; exact H
   clear H
   have H := H1
   clear H1
   by_cases c7 : a0_1 = 0
   ·
    rw [if_pos c7] at H
    have c7b0 : (a0_1 == 0) = true := beq_iff_eq.mpr c7
    have c7b1 : (a0_1 != 0) = false := bne_eq_false_iff_eq.mpr c7
    clear c7
    by_cases c8 : a0_2 = 0
    ·
     rw [if_pos c8] at H
     have c8b0 : (a0_2 == 0) = true := beq_iff_eq.mpr c8
     have c8b1 : (a0_2 != 0) = false := bne_eq_false_iff_eq.mpr c8
     clear c8
     obtain rfl := Option.some.inj H
     go_enter Try.func107, Try.ntmps107
     go_wp2_with (first | ((with_reducible refine gate_dst (N := 2) rfl ?_); refine box_event ?hg (N := 2) ?hd (cs := #[.int .i64 a0_0, .int .i64 a0_1, .int .i64 a0_2, .int .i64 a0_3]) (t := 115) ?hr ?_; (case hd => rfl); (case hg => rfl); (case hr => first | (go_simp; done) | (go_simp; rfl)); intro gb101 hg w9 hbox hb; have n0_ := am_ (below_step qz1_ hb); have n1_ := am_ (hbox); have n2_ := am_ ((by rw [hg]; exact (below_size qz1_) : w.heap.size ≤ gb101)); have n3_ := am_ ((by rw [hg]; exact (below_size qz1_) : w.heap.size ≤ gb101)); clear HB; have HB := n0_; have BK101 := n1_; have GW101 := n2_; have GE101 := n3_; clear n0_ n1_ n2_ n3_; clear hb hbox hg; have hcz10_0 : w9.cell? ⟨gb101, 0, none⟩ = some (.int .i64 a0_0) := (blk_cell BK101.out 0).trans rfl; have hcz10_1 : w9.cell? ⟨gb101, 1, none⟩ = some (.int .i64 a0_1) := (blk_cell BK101.out 1).trans rfl; have hcz10_2 : w9.cell? ⟨gb101, 2, none⟩ = some (.int .i64 a0_2) := (blk_cell BK101.out 2).trans rfl; have hcz10_3 : w9.cell? ⟨gb101, 3, none⟩ = some (.int .i64 a0_3) := (blk_cell BK101.out 3).trans rfl; have hfz10_0 := blk_frozen BK101.out 0; have hfz10_1 := blk_frozen BK101.out 1; have hfz10_2 := blk_frozen BK101.out 2; have hfz10_3 := blk_frozen BK101.out 3) | (go_at_call 53; (with_reducible refine (impl_FieldOK.calls a0_3 t102 _ A4.out).mono ?_); rintro e w' ⟨rfl, ⟨nd, rfl⟩⟩; (try first | exact ⟨rfl, _, qd1_⟩ | exact ⟨rfl, _, qd2_⟩)) | (go_at_call 45; (with_reducible refine (impl_in.calls a0_0 1 8 true _ A5.out).mono ?_); rintro e w' ⟨rfl, ⟨nd, rfl⟩⟩; (try first | exact ⟨rfl, _, qd1_⟩ | exact ⟨rfl, _, qd2_⟩)))
     repeat (go_quiet (first | ((with_reducible refine gate_dst (N := 2) rfl ?_); refine box_event ?hg (N := 2) ?hd (cs := #[.int .i64 a0_0, .int .i64 a0_1, .int .i64 a0_2, .int .i64 a0_3]) (t := 115) ?hr ?_; (case hd => rfl); (case hg => rfl); (case hr => first | (go_simp; done) | (go_simp; rfl)); intro gb101 hg w9 hbox hb; have n0_ := am_ (below_step qz1_ hb); have n1_ := am_ (hbox); have n2_ := am_ ((by rw [hg]; exact (below_size qz1_) : w.heap.size ≤ gb101)); have n3_ := am_ ((by rw [hg]; exact (below_size qz1_) : w.heap.size ≤ gb101)); clear HB; have HB := n0_; have BK101 := n1_; have GW101 := n2_; have GE101 := n3_; clear n0_ n1_ n2_ n3_; clear hb hbox hg; have hcz10_0 : w9.cell? ⟨gb101, 0, none⟩ = some (.int .i64 a0_0) := (blk_cell BK101.out 0).trans rfl; have hcz10_1 : w9.cell? ⟨gb101, 1, none⟩ = some (.int .i64 a0_1) := (blk_cell BK101.out 1).trans rfl; have hcz10_2 : w9.cell? ⟨gb101, 2, none⟩ = some (.int .i64 a0_2) := (blk_cell BK101.out 2).trans rfl; have hcz10_3 : w9.cell? ⟨gb101, 3, none⟩ = some (.int .i64 a0_3) := (blk_cell BK101.out 3).trans rfl; have hfz10_0 := blk_frozen BK101.out 0; have hfz10_1 := blk_frozen BK101.out 1; have hfz10_2 := blk_frozen BK101.out 2; have hfz10_3 := blk_frozen BK101.out 3) | (go_at_call 53; (with_reducible refine (impl_FieldOK.calls a0_3 t102 _ A4.out).mono ?_); rintro e w' ⟨rfl, ⟨nd, rfl⟩⟩; (try first | exact ⟨rfl, _, qd1_⟩ | exact ⟨rfl, _, qd2_⟩)) | (go_at_call 45; (with_reducible refine (impl_in.calls a0_0 1 8 true _ A5.out).mono ?_); rintro e w' ⟨rfl, ⟨nd, rfl⟩⟩; (try first | exact ⟨rfl, _, qd1_⟩ | exact ⟨rfl, _, qd2_⟩))); try go_wp2_with (first | ((with_reducible refine gate_dst (N := 2) rfl ?_); refine box_event ?hg (N := 2) ?hd (cs := #[.int .i64 a0_0, .int .i64 a0_1, .int .i64 a0_2, .int .i64 a0_3]) (t := 115) ?hr ?_; (case hd => rfl); (case hg => rfl); (case hr => first | (go_simp; done) | (go_simp; rfl)); intro gb101 hg w9 hbox hb; have n0_ := am_ (below_step qz1_ hb); have n1_ := am_ (hbox); have n2_ := am_ ((by rw [hg]; exact (below_size qz1_) : w.heap.size ≤ gb101)); have n3_ := am_ ((by rw [hg]; exact (below_size qz1_) : w.heap.size ≤ gb101)); clear HB; have HB := n0_; have BK101 := n1_; have GW101 := n2_; have GE101 := n3_; clear n0_ n1_ n2_ n3_; clear hb hbox hg; have hcz10_0 : w9.cell? ⟨gb101, 0, none⟩ = some (.int .i64 a0_0) := (blk_cell BK101.out 0).trans rfl; have hcz10_1 : w9.cell? ⟨gb101, 1, none⟩ = some (.int .i64 a0_1) := (blk_cell BK101.out 1).trans rfl; have hcz10_2 : w9.cell? ⟨gb101, 2, none⟩ = some (.int .i64 a0_2) := (blk_cell BK101.out 2).trans rfl; have hcz10_3 : w9.cell? ⟨gb101, 3, none⟩ = some (.int .i64 a0_3) := (blk_cell BK101.out 3).trans rfl; have hfz10_0 := blk_frozen BK101.out 0; have hfz10_1 := blk_frozen BK101.out 1; have hfz10_2 := blk_frozen BK101.out 2; have hfz10_3 := blk_frozen BK101.out 3) | (go_at_call 53; (with_reducible refine (impl_FieldOK.calls a0_3 t102 _ A4.out).mono ?_); rintro e w' ⟨rfl, ⟨nd, rfl⟩⟩; (try first | exact ⟨rfl, _, qd1_⟩ | exact ⟨rfl, _, qd2_⟩)) | (go_at_call 45; (with_reducible refine (impl_in.calls a0_0 1 8 true _ A5.out).mono ?_); rintro e w' ⟨rfl, ⟨nd, rfl⟩⟩; (try first | exact ⟨rfl, _, qd1_⟩ | exact ⟨rfl, _, qd2_⟩))))
     go_ret
     exact ⟨qz5_, qz10_⟩
    ·
     rw [if_neg c8] at H
     have c8b0 : (a0_2 == 0) = false := beq_eq_false_iff_ne.mpr c8
     have c8b1 : (a0_2 != 0) = true := bne_iff_ne.mpr c8
     obtain rfl := Option.some.inj H
     go_enter Try.func107, Try.ntmps107
     go_wp2_with (first | ((with_reducible refine gate_dst (N := 2) rfl ?_); refine box_event ?hg (N := 2) ?hd (cs := #[.int .i64 a0_0, .int .i64 a0_1, .int .i64 a0_2, .int .i64 a0_3]) (t := 115) ?hr ?_; (case hd => rfl); (case hg => rfl); (case hr => first | (go_simp; done) | (go_simp; rfl)); intro gb101 hg w11 hbox hb; have n0_ := am_ (below_step qz1_ hb); have n1_ := am_ (hbox); have n2_ := am_ ((by rw [hg]; exact (below_size qz1_) : w.heap.size ≤ gb101)); have n3_ := am_ ((by rw [hg]; exact (below_size qz1_) : w.heap.size ≤ gb101)); clear HB; have HB := n0_; have BK101 := n1_; have GW101 := n2_; have GE101 := n3_; clear n0_ n1_ n2_ n3_; clear hb hbox hg; have hcz12_0 : w11.cell? ⟨gb101, 0, none⟩ = some (.int .i64 a0_0) := (blk_cell BK101.out 0).trans rfl; have hcz12_1 : w11.cell? ⟨gb101, 1, none⟩ = some (.int .i64 a0_1) := (blk_cell BK101.out 1).trans rfl; have hcz12_2 : w11.cell? ⟨gb101, 2, none⟩ = some (.int .i64 a0_2) := (blk_cell BK101.out 2).trans rfl; have hcz12_3 : w11.cell? ⟨gb101, 3, none⟩ = some (.int .i64 a0_3) := (blk_cell BK101.out 3).trans rfl; have hfz12_0 := blk_frozen BK101.out 0; have hfz12_1 := blk_frozen BK101.out 1; have hfz12_2 := blk_frozen BK101.out 2; have hfz12_3 := blk_frozen BK101.out 3) | (go_at_call 53; (with_reducible refine (impl_FieldOK.calls a0_3 t102 _ A4.out).mono ?_); rintro e w' ⟨rfl, ⟨nd, rfl⟩⟩; (try first | exact ⟨rfl, _, qd1_⟩ | exact ⟨rfl, _, qd2_⟩)) | (go_at_call 45; (with_reducible refine (impl_in.calls a0_0 1 8 true _ A5.out).mono ?_); rintro e w' ⟨rfl, ⟨nd, rfl⟩⟩; (try first | exact ⟨rfl, _, qd1_⟩ | exact ⟨rfl, _, qd2_⟩)))
     repeat (go_quiet (first | ((with_reducible refine gate_dst (N := 2) rfl ?_); refine box_event ?hg (N := 2) ?hd (cs := #[.int .i64 a0_0, .int .i64 a0_1, .int .i64 a0_2, .int .i64 a0_3]) (t := 115) ?hr ?_; (case hd => rfl); (case hg => rfl); (case hr => first | (go_simp; done) | (go_simp; rfl)); intro gb101 hg w11 hbox hb; have n0_ := am_ (below_step qz1_ hb); have n1_ := am_ (hbox); have n2_ := am_ ((by rw [hg]; exact (below_size qz1_) : w.heap.size ≤ gb101)); have n3_ := am_ ((by rw [hg]; exact (below_size qz1_) : w.heap.size ≤ gb101)); clear HB; have HB := n0_; have BK101 := n1_; have GW101 := n2_; have GE101 := n3_; clear n0_ n1_ n2_ n3_; clear hb hbox hg; have hcz12_0 : w11.cell? ⟨gb101, 0, none⟩ = some (.int .i64 a0_0) := (blk_cell BK101.out 0).trans rfl; have hcz12_1 : w11.cell? ⟨gb101, 1, none⟩ = some (.int .i64 a0_1) := (blk_cell BK101.out 1).trans rfl; have hcz12_2 : w11.cell? ⟨gb101, 2, none⟩ = some (.int .i64 a0_2) := (blk_cell BK101.out 2).trans rfl; have hcz12_3 : w11.cell? ⟨gb101, 3, none⟩ = some (.int .i64 a0_3) := (blk_cell BK101.out 3).trans rfl; have hfz12_0 := blk_frozen BK101.out 0; have hfz12_1 := blk_frozen BK101.out 1; have hfz12_2 := blk_frozen BK101.out 2; have hfz12_3 := blk_frozen BK101.out 3) | (go_at_call 53; (with_reducible refine (impl_FieldOK.calls a0_3 t102 _ A4.out).mono ?_); rintro e w' ⟨rfl, ⟨nd, rfl⟩⟩; (try first | exact ⟨rfl, _, qd1_⟩ | exact ⟨rfl, _, qd2_⟩)) | (go_at_call 45; (with_reducible refine (impl_in.calls a0_0 1 8 true _ A5.out).mono ?_); rintro e w' ⟨rfl, ⟨nd, rfl⟩⟩; (try first | exact ⟨rfl, _, qd1_⟩ | exact ⟨rfl, _, qd2_⟩))); try go_wp2_with (first | ((with_reducible refine gate_dst (N := 2) rfl ?_); refine box_event ?hg (N := 2) ?hd (cs := #[.int .i64 a0_0, .int .i64 a0_1, .int .i64 a0_2, .int .i64 a0_3]) (t := 115) ?hr ?_; (case hd => rfl); (case hg => rfl); (case hr => first | (go_simp; done) | (go_simp; rfl)); intro gb101 hg w11 hbox hb; have n0_ := am_ (below_step qz1_ hb); have n1_ := am_ (hbox); have n2_ := am_ ((by rw [hg]; exact (below_size qz1_) : w.heap.size ≤ gb101)); have n3_ := am_ ((by rw [hg]; exact (below_size qz1_) : w.heap.size ≤ gb101)); clear HB; have HB := n0_; have BK101 := n1_; have GW101 := n2_; have GE101 := n3_; clear n0_ n1_ n2_ n3_; clear hb hbox hg; have hcz12_0 : w11.cell? ⟨gb101, 0, none⟩ = some (.int .i64 a0_0) := (blk_cell BK101.out 0).trans rfl; have hcz12_1 : w11.cell? ⟨gb101, 1, none⟩ = some (.int .i64 a0_1) := (blk_cell BK101.out 1).trans rfl; have hcz12_2 : w11.cell? ⟨gb101, 2, none⟩ = some (.int .i64 a0_2) := (blk_cell BK101.out 2).trans rfl; have hcz12_3 : w11.cell? ⟨gb101, 3, none⟩ = some (.int .i64 a0_3) := (blk_cell BK101.out 3).trans rfl; have hfz12_0 := blk_frozen BK101.out 0; have hfz12_1 := blk_frozen BK101.out 1; have hfz12_2 := blk_frozen BK101.out 2; have hfz12_3 := blk_frozen BK101.out 3) | (go_at_call 53; (with_reducible refine (impl_FieldOK.calls a0_3 t102 _ A4.out).mono ?_); rintro e w' ⟨rfl, ⟨nd, rfl⟩⟩; (try first | exact ⟨rfl, _, qd1_⟩ | exact ⟨rfl, _, qd2_⟩)) | (go_at_call 45; (with_reducible refine (impl_in.calls a0_0 1 8 true _ A5.out).mono ?_); rintro e w' ⟨rfl, ⟨nd, rfl⟩⟩; (try first | exact ⟨rfl, _, qd1_⟩ | exact ⟨rfl, _, qd2_⟩))))
     go_ret
     exact ⟨qz5_, qz10_⟩
   ·
    rw [if_neg c7] at H
    have c7b0 : (a0_1 == 0) = false := beq_eq_false_iff_ne.mpr c7
    have c7b1 : (a0_1 != 0) = true := bne_iff_ne.mpr c7
    obtain rfl := Option.some.inj H
    go_enter Try.func107, Try.ntmps107
    go_wp2_with (first | ((with_reducible refine gate_dst (N := 2) rfl ?_); refine box_event ?hg (N := 2) ?hd (cs := #[.int .i64 a0_0, .int .i64 a0_1, .int .i64 a0_2, .int .i64 a0_3]) (t := 115) ?hr ?_; (case hd => rfl); (case hg => rfl); (case hr => first | (go_simp; done) | (go_simp; rfl)); intro gb101 hg w13 hbox hb; have n0_ := am_ (below_step qz1_ hb); have n1_ := am_ (hbox); have n2_ := am_ ((by rw [hg]; exact (below_size qz1_) : w.heap.size ≤ gb101)); have n3_ := am_ ((by rw [hg]; exact (below_size qz1_) : w.heap.size ≤ gb101)); clear HB; have HB := n0_; have BK101 := n1_; have GW101 := n2_; have GE101 := n3_; clear n0_ n1_ n2_ n3_; clear hb hbox hg; have hcz14_0 : w13.cell? ⟨gb101, 0, none⟩ = some (.int .i64 a0_0) := (blk_cell BK101.out 0).trans rfl; have hcz14_1 : w13.cell? ⟨gb101, 1, none⟩ = some (.int .i64 a0_1) := (blk_cell BK101.out 1).trans rfl; have hcz14_2 : w13.cell? ⟨gb101, 2, none⟩ = some (.int .i64 a0_2) := (blk_cell BK101.out 2).trans rfl; have hcz14_3 : w13.cell? ⟨gb101, 3, none⟩ = some (.int .i64 a0_3) := (blk_cell BK101.out 3).trans rfl; have hfz14_0 := blk_frozen BK101.out 0; have hfz14_1 := blk_frozen BK101.out 1; have hfz14_2 := blk_frozen BK101.out 2; have hfz14_3 := blk_frozen BK101.out 3) | (go_at_call 53; (with_reducible refine (impl_FieldOK.calls a0_3 t102 _ A4.out).mono ?_); rintro e w' ⟨rfl, ⟨nd, rfl⟩⟩; (try first | exact ⟨rfl, _, qd1_⟩ | exact ⟨rfl, _, qd2_⟩)) | (go_at_call 45; (with_reducible refine (impl_in.calls a0_0 1 8 true _ A5.out).mono ?_); rintro e w' ⟨rfl, ⟨nd, rfl⟩⟩; (try first | exact ⟨rfl, _, qd1_⟩ | exact ⟨rfl, _, qd2_⟩)))
    repeat (go_quiet (first | ((with_reducible refine gate_dst (N := 2) rfl ?_); refine box_event ?hg (N := 2) ?hd (cs := #[.int .i64 a0_0, .int .i64 a0_1, .int .i64 a0_2, .int .i64 a0_3]) (t := 115) ?hr ?_; (case hd => rfl); (case hg => rfl); (case hr => first | (go_simp; done) | (go_simp; rfl)); intro gb101 hg w13 hbox hb; have n0_ := am_ (below_step qz1_ hb); have n1_ := am_ (hbox); have n2_ := am_ ((by rw [hg]; exact (below_size qz1_) : w.heap.size ≤ gb101)); have n3_ := am_ ((by rw [hg]; exact (below_size qz1_) : w.heap.size ≤ gb101)); clear HB; have HB := n0_; have BK101 := n1_; have GW101 := n2_; have GE101 := n3_; clear n0_ n1_ n2_ n3_; clear hb hbox hg; have hcz14_0 : w13.cell? ⟨gb101, 0, none⟩ = some (.int .i64 a0_0) := (blk_cell BK101.out 0).trans rfl; have hcz14_1 : w13.cell? ⟨gb101, 1, none⟩ = some (.int .i64 a0_1) := (blk_cell BK101.out 1).trans rfl; have hcz14_2 : w13.cell? ⟨gb101, 2, none⟩ = some (.int .i64 a0_2) := (blk_cell BK101.out 2).trans rfl; have hcz14_3 : w13.cell? ⟨gb101, 3, none⟩ = some (.int .i64 a0_3) := (blk_cell BK101.out 3).trans rfl; have hfz14_0 := blk_frozen BK101.out 0; have hfz14_1 := blk_frozen BK101.out 1; have hfz14_2 := blk_frozen BK101.out 2; have hfz14_3 := blk_frozen BK101.out 3) | (go_at_call 53; (with_reducible refine (impl_FieldOK.calls a0_3 t102 _ A4.out).mono ?_); rintro e w' ⟨rfl, ⟨nd, rfl⟩⟩; (try first | exact ⟨rfl, _, qd1_⟩ | exact ⟨rfl, _, qd2_⟩)) | (go_at_call 45; (with_reducible refine (impl_in.calls a0_0 1 8 true _ A5.out).mono ?_); rintro e w' ⟨rfl, ⟨nd, rfl⟩⟩; (try first | exact ⟨rfl, _, qd1_⟩ | exact ⟨rfl, _, qd2_⟩))); try go_wp2_with (first | ((with_reducible refine gate_dst (N := 2) rfl ?_); refine box_event ?hg (N := 2) ?hd (cs := #[.int .i64 a0_0, .int .i64 a0_1, .int .i64 a0_2, .int .i64 a0_3]) (t := 115) ?hr ?_; (case hd => rfl); (case hg => rfl); (case hr => first | (go_simp; done) | (go_simp; rfl)); intro gb101 hg w13 hbox hb; have n0_ := am_ (below_step qz1_ hb); have n1_ := am_ (hbox); have n2_ := am_ ((by rw [hg]; exact (below_size qz1_) : w.heap.size ≤ gb101)); have n3_ := am_ ((by rw [hg]; exact (below_size qz1_) : w.heap.size ≤ gb101)); clear HB; have HB := n0_; have BK101 := n1_; have GW101 := n2_; have GE101 := n3_; clear n0_ n1_ n2_ n3_; clear hb hbox hg; have hcz14_0 : w13.cell? ⟨gb101, 0, none⟩ = some (.int .i64 a0_0) := (blk_cell BK101.out 0).trans rfl; have hcz14_1 : w13.cell? ⟨gb101, 1, none⟩ = some (.int .i64 a0_1) := (blk_cell BK101.out 1).trans rfl; have hcz14_2 : w13.cell? ⟨gb101, 2, none⟩ = some (.int .i64 a0_2) := (blk_cell BK101.out 2).trans rfl; have hcz14_3 : w13.cell? ⟨gb101, 3, none⟩ = some (.int .i64 a0_3) := (blk_cell BK101.out 3).trans rfl; have hfz14_0 := blk_frozen BK101.out 0; have hfz14_1 := blk_frozen BK101.out 1; have hfz14_2 := blk_frozen BK101.out 2; have hfz14_3 := blk_frozen BK101.out 3) | (go_at_call 53; (with_reducible refine (impl_FieldOK.calls a0_3 t102 _ A4.out).mono ?_); rintro e w' ⟨rfl, ⟨nd, rfl⟩⟩; (try first | exact ⟨rfl, _, qd1_⟩ | exact ⟨rfl, _, qd2_⟩)) | (go_at_call 45; (with_reducible refine (impl_in.calls a0_0 1 8 true _ A5.out).mono ?_); rintro e w' ⟨rfl, ⟨nd, rfl⟩⟩; (try first | exact ⟨rfl, _, qd1_⟩ | exact ⟨rfl, _, qd2_⟩))))
    go_ret
    exact ⟨qz5_, qz10_⟩
  ·
   replace c6 := Bool.eq_false_iff.mpr c6
   subst c6
   have H1 : (some false) = some r := by rw [if_neg (show ¬ (false = true) by decide)] at H; exact H
   clear H
   have H := H1
   clear H1
   obtain rfl := Option.some.inj H
   go_enter Try.func107, Try.ntmps107
   go_wp2_with (first | ((with_reducible refine gate_dst (N := 2) rfl ?_); refine box_event ?hg (N := 2) ?hd (cs := #[.int .i64 a0_0, .int .i64 a0_1, .int .i64 a0_2, .int .i64 a0_3]) (t := 115) ?hr ?_; (case hd => rfl); (case hg => rfl); (case hr => first | (go_simp; done) | (go_simp; rfl)); intro gb101 hg w15 hbox hb; have n0_ := am_ (below_step qz1_ hb); have n1_ := am_ (hbox); have n2_ := am_ ((by rw [hg]; exact (below_size qz1_) : w.heap.size ≤ gb101)); have n3_ := am_ ((by rw [hg]; exact (below_size qz1_) : w.heap.size ≤ gb101)); clear HB; have HB := n0_; have BK101 := n1_; have GW101 := n2_; have GE101 := n3_; clear n0_ n1_ n2_ n3_; clear hb hbox hg; have hcz16_0 : w15.cell? ⟨gb101, 0, none⟩ = some (.int .i64 a0_0) := (blk_cell BK101.out 0).trans rfl; have hcz16_1 : w15.cell? ⟨gb101, 1, none⟩ = some (.int .i64 a0_1) := (blk_cell BK101.out 1).trans rfl; have hcz16_2 : w15.cell? ⟨gb101, 2, none⟩ = some (.int .i64 a0_2) := (blk_cell BK101.out 2).trans rfl; have hcz16_3 : w15.cell? ⟨gb101, 3, none⟩ = some (.int .i64 a0_3) := (blk_cell BK101.out 3).trans rfl; have hfz16_0 := blk_frozen BK101.out 0; have hfz16_1 := blk_frozen BK101.out 1; have hfz16_2 := blk_frozen BK101.out 2; have hfz16_3 := blk_frozen BK101.out 3) | (go_at_call 53; (with_reducible refine (impl_FieldOK.calls a0_3 t102 _ A4.out).mono ?_); rintro e w' ⟨rfl, ⟨nd, rfl⟩⟩; (try first | exact ⟨rfl, _, qd1_⟩ | exact ⟨rfl, _, qd2_⟩)) | (go_at_call 45; (with_reducible refine (impl_in.calls a0_0 1 8 false _ A5.out).mono ?_); rintro e w' ⟨rfl, ⟨nd, rfl⟩⟩; (try first | exact ⟨rfl, _, qd1_⟩ | exact ⟨rfl, _, qd2_⟩)))
   repeat (go_quiet (first | ((with_reducible refine gate_dst (N := 2) rfl ?_); refine box_event ?hg (N := 2) ?hd (cs := #[.int .i64 a0_0, .int .i64 a0_1, .int .i64 a0_2, .int .i64 a0_3]) (t := 115) ?hr ?_; (case hd => rfl); (case hg => rfl); (case hr => first | (go_simp; done) | (go_simp; rfl)); intro gb101 hg w15 hbox hb; have n0_ := am_ (below_step qz1_ hb); have n1_ := am_ (hbox); have n2_ := am_ ((by rw [hg]; exact (below_size qz1_) : w.heap.size ≤ gb101)); have n3_ := am_ ((by rw [hg]; exact (below_size qz1_) : w.heap.size ≤ gb101)); clear HB; have HB := n0_; have BK101 := n1_; have GW101 := n2_; have GE101 := n3_; clear n0_ n1_ n2_ n3_; clear hb hbox hg; have hcz16_0 : w15.cell? ⟨gb101, 0, none⟩ = some (.int .i64 a0_0) := (blk_cell BK101.out 0).trans rfl; have hcz16_1 : w15.cell? ⟨gb101, 1, none⟩ = some (.int .i64 a0_1) := (blk_cell BK101.out 1).trans rfl; have hcz16_2 : w15.cell? ⟨gb101, 2, none⟩ = some (.int .i64 a0_2) := (blk_cell BK101.out 2).trans rfl; have hcz16_3 : w15.cell? ⟨gb101, 3, none⟩ = some (.int .i64 a0_3) := (blk_cell BK101.out 3).trans rfl; have hfz16_0 := blk_frozen BK101.out 0; have hfz16_1 := blk_frozen BK101.out 1; have hfz16_2 := blk_frozen BK101.out 2; have hfz16_3 := blk_frozen BK101.out 3) | (go_at_call 53; (with_reducible refine (impl_FieldOK.calls a0_3 t102 _ A4.out).mono ?_); rintro e w' ⟨rfl, ⟨nd, rfl⟩⟩; (try first | exact ⟨rfl, _, qd1_⟩ | exact ⟨rfl, _, qd2_⟩)) | (go_at_call 45; (with_reducible refine (impl_in.calls a0_0 1 8 false _ A5.out).mono ?_); rintro e w' ⟨rfl, ⟨nd, rfl⟩⟩; (try first | exact ⟨rfl, _, qd1_⟩ | exact ⟨rfl, _, qd2_⟩))); try go_wp2_with (first | ((with_reducible refine gate_dst (N := 2) rfl ?_); refine box_event ?hg (N := 2) ?hd (cs := #[.int .i64 a0_0, .int .i64 a0_1, .int .i64 a0_2, .int .i64 a0_3]) (t := 115) ?hr ?_; (case hd => rfl); (case hg => rfl); (case hr => first | (go_simp; done) | (go_simp; rfl)); intro gb101 hg w15 hbox hb; have n0_ := am_ (below_step qz1_ hb); have n1_ := am_ (hbox); have n2_ := am_ ((by rw [hg]; exact (below_size qz1_) : w.heap.size ≤ gb101)); have n3_ := am_ ((by rw [hg]; exact (below_size qz1_) : w.heap.size ≤ gb101)); clear HB; have HB := n0_; have BK101 := n1_; have GW101 := n2_; have GE101 := n3_; clear n0_ n1_ n2_ n3_; clear hb hbox hg; have hcz16_0 : w15.cell? ⟨gb101, 0, none⟩ = some (.int .i64 a0_0) := (blk_cell BK101.out 0).trans rfl; have hcz16_1 : w15.cell? ⟨gb101, 1, none⟩ = some (.int .i64 a0_1) := (blk_cell BK101.out 1).trans rfl; have hcz16_2 : w15.cell? ⟨gb101, 2, none⟩ = some (.int .i64 a0_2) := (blk_cell BK101.out 2).trans rfl; have hcz16_3 : w15.cell? ⟨gb101, 3, none⟩ = some (.int .i64 a0_3) := (blk_cell BK101.out 3).trans rfl; have hfz16_0 := blk_frozen BK101.out 0; have hfz16_1 := blk_frozen BK101.out 1; have hfz16_2 := blk_frozen BK101.out 2; have hfz16_3 := blk_frozen BK101.out 3) | (go_at_call 53; (with_reducible refine (impl_FieldOK.calls a0_3 t102 _ A4.out).mono ?_); rintro e w' ⟨rfl, ⟨nd, rfl⟩⟩; (try first | exact ⟨rfl, _, qd1_⟩ | exact ⟨rfl, _, qd2_⟩)) | (go_at_call 45; (with_reducible refine (impl_in.calls a0_0 1 8 false _ A5.out).mono ?_); rintro e w' ⟨rfl, ⟨nd, rfl⟩⟩; (try first | exact ⟨rfl, _, qd1_⟩ | exact ⟨rfl, _, qd2_⟩))))
   go_ret
   exact ⟨qz5_, qz10_⟩
 ·
  rw [if_neg c3] at H
  have c3b0 : (a0_0 == 3) = false := beq_eq_false_iff_ne.mpr c3
  have c3b1 : (a0_0 != 3) = true := bne_iff_ne.mpr c3
  have HC17 := am_ H
  clear H
  go_enter Try.func107, Try.ntmps107
  go_upto_if 24 with (first | ((with_reducible refine gate_dst (N := 2) rfl ?_); refine box_event ?hg (N := 2) ?hd (cs := #[.int .i64 a0_0, .int .i64 a0_1, .int .i64 a0_2, .int .i64 a0_3]) (t := 115) ?hr ?_; (case hd => rfl); (case hg => rfl); (case hr => first | (go_simp; done) | (go_simp; rfl)); intro gb101 hg w18 hbox hb; have n0_ := am_ (below_step qz1_ hb); have n1_ := am_ (hbox); have n2_ := am_ ((by rw [hg]; exact (below_size qz1_) : w.heap.size ≤ gb101)); have n3_ := am_ ((by rw [hg]; exact (below_size qz1_) : w.heap.size ≤ gb101)); clear HB; have HB := n0_; have BK101 := n1_; have GW101 := n2_; have GE101 := n3_; clear n0_ n1_ n2_ n3_; clear hb hbox hg; have hcz19_0 : w18.cell? ⟨gb101, 0, none⟩ = some (.int .i64 a0_0) := (blk_cell BK101.out 0).trans rfl; have hcz19_1 : w18.cell? ⟨gb101, 1, none⟩ = some (.int .i64 a0_1) := (blk_cell BK101.out 1).trans rfl; have hcz19_2 : w18.cell? ⟨gb101, 2, none⟩ = some (.int .i64 a0_2) := (blk_cell BK101.out 2).trans rfl; have hcz19_3 : w18.cell? ⟨gb101, 3, none⟩ = some (.int .i64 a0_3) := (blk_cell BK101.out 3).trans rfl; have hfz19_0 := blk_frozen BK101.out 0; have hfz19_1 := blk_frozen BK101.out 1; have hfz19_2 := blk_frozen BK101.out 2; have hfz19_3 := blk_frozen BK101.out 3))
  repeat (go_quiet (first | ((with_reducible refine gate_dst (N := 2) rfl ?_); refine box_event ?hg (N := 2) ?hd (cs := #[.int .i64 a0_0, .int .i64 a0_1, .int .i64 a0_2, .int .i64 a0_3]) (t := 115) ?hr ?_; (case hd => rfl); (case hg => rfl); (case hr => first | (go_simp; done) | (go_simp; rfl)); intro gb101 hg w18 hbox hb; have n0_ := am_ (below_step qz1_ hb); have n1_ := am_ (hbox); have n2_ := am_ ((by rw [hg]; exact (below_size qz1_) : w.heap.size ≤ gb101)); have n3_ := am_ ((by rw [hg]; exact (below_size qz1_) : w.heap.size ≤ gb101)); clear HB; have HB := n0_; have BK101 := n1_; have GW101 := n2_; have GE101 := n3_; clear n0_ n1_ n2_ n3_; clear hb hbox hg; have hcz19_0 : w18.cell? ⟨gb101, 0, none⟩ = some (.int .i64 a0_0) := (blk_cell BK101.out 0).trans rfl; have hcz19_1 : w18.cell? ⟨gb101, 1, none⟩ = some (.int .i64 a0_1) := (blk_cell BK101.out 1).trans rfl; have hcz19_2 : w18.cell? ⟨gb101, 2, none⟩ = some (.int .i64 a0_2) := (blk_cell BK101.out 2).trans rfl; have hcz19_3 : w18.cell? ⟨gb101, 3, none⟩ = some (.int .i64 a0_3) := (blk_cell BK101.out 3).trans rfl; have hfz19_0 := blk_frozen BK101.out 0; have hfz19_1 := blk_frozen BK101.out 1; have hfz19_2 := blk_frozen BK101.out 2; have hfz19_3 := blk_frozen BK101.out 3)); go_upto_if 24 with (first | ((with_reducible refine gate_dst (N := 2) rfl ?_); refine box_event ?hg (N := 2) ?hd (cs := #[.int .i64 a0_0, .int .i64 a0_1, .int .i64 a0_2, .int .i64 a0_3]) (t := 115) ?hr ?_; (case hd => rfl); (case hg => rfl); (case hr => first | (go_simp; done) | (go_simp; rfl)); intro gb101 hg w18 hbox hb; have n0_ := am_ (below_step qz1_ hb); have n1_ := am_ (hbox); have n2_ := am_ ((by rw [hg]; exact (below_size qz1_) : w.heap.size ≤ gb101)); have n3_ := am_ ((by rw [hg]; exact (below_size qz1_) : w.heap.size ≤ gb101)); clear HB; have HB := n0_; have BK101 := n1_; have GW101 := n2_; have GE101 := n3_; clear n0_ n1_ n2_ n3_; clear hb hbox hg; have hcz19_0 : w18.cell? ⟨gb101, 0, none⟩ = some (.int .i64 a0_0) := (blk_cell BK101.out 0).trans rfl; have hcz19_1 : w18.cell? ⟨gb101, 1, none⟩ = some (.int .i64 a0_1) := (blk_cell BK101.out 1).trans rfl; have hcz19_2 : w18.cell? ⟨gb101, 2, none⟩ = some (.int .i64 a0_2) := (blk_cell BK101.out 2).trans rfl; have hcz19_3 : w18.cell? ⟨gb101, 3, none⟩ = some (.int .i64 a0_3) := (blk_cell BK101.out 3).trans rfl; have hfz19_0 := blk_frozen BK101.out 0; have hfz19_1 := blk_frozen BK101.out 1; have hfz19_2 := blk_frozen BK101.out 2; have hfz19_3 := blk_frozen BK101.out 3)))
  (try simp only [Act.put, List.setIfInBounds_toArray, List.set_cons_zero, List.set_cons_succ])
  go_cut [24] (fun v24 wc => ∃ (kq : Nat) (x24_16 : Bool), v24 = .bool x24_16 ∧ Aside0 (impl_isGate.j0 kq a1 (a0_1 == 0) (a0_2 == 0) (a0_3 == 0) a0_0 x24_16 a0_0 a0_1 a0_2 a0_3 = some r) ∧ Aside0 (kq ≤ k) ∧ Aside0 (wc.heap[gb101]? = some (.cells #[.int .i64 a0_0, .int .i64 a0_1, .int .i64 a0_2, .int .i64 a0_3] 115 (0, 0))) ∧ Aside0 (Below w.heap.size w wc))
  case first =>
   have H := HC17.out
   clear HC17
   by_cases c20 : a0_0 = 4
   ·
    rw [if_pos c20] at H
    have c20b0 : (a0_0 == 4) = true := beq_iff_eq.mpr c20
    have c20b1 : (a0_0 != 4) = false := bne_eq_false_iff_eq.mpr c20
    clear c20
    (first | rw [c20b0] | (simp only [i64_w, i32_w]; rw [c20b0]) | skip)
    have H' := am_ H
    clear H
    go_wp2
    repeat (go_quiet (fail); try go_wp2)
    go_meet
    case rel => exact ⟨_, ((a0_0 == 4)), qz2_, H', ⟨qz14_⟩, ⟨qz11_⟩, ⟨qz10_⟩⟩
   ·
    rw [if_neg c20] at H
    have c20b0 : (a0_0 == 4) = false := beq_eq_false_iff_ne.mpr c20
    have c20b1 : (a0_0 != 4) = true := bne_iff_ne.mpr c20
    (first | rw [c20b0] | (simp only [i64_w, i32_w]; rw [c20b0]) | skip)
    by_cases c21 : a0_0 = 5
    ·
     rw [if_pos c21] at H
     have c21b0 : (a0_0 == 5) = true := beq_iff_eq.mpr c21
     have c21b1 : (a0_0 != 5) = false := bne_eq_false_iff_eq.mpr c21
     clear c21
     have H' := am_ H
     clear H
     go_wp2
     repeat (go_quiet (fail); try go_wp2)
     go_meet
     case rel => exact ⟨_, ((a0_0 == 5)), qz2_, H', ⟨qz14_⟩, ⟨qz11_⟩, ⟨qz10_⟩⟩
    ·
     rw [if_neg c21] at H
     have c21b0 : (a0_0 == 5) = false := beq_eq_false_iff_ne.mpr c21
     have c21b1 : (a0_0 != 5) = true := bne_iff_ne.mpr c21
     by_cases c22 : a0_0 = 6
     ·
      rw [if_pos c22] at H
      have c22b0 : (a0_0 == 6) = true := beq_iff_eq.mpr c22
      have c22b1 : (a0_0 != 6) = false := bne_eq_false_iff_eq.mpr c22
      clear c22
      have H' := am_ H
      clear H
      go_wp2
      repeat (go_quiet (fail); try go_wp2)
      go_meet
      case rel => exact ⟨_, ((a0_0 == 6)), qz2_, H', ⟨qz14_⟩, ⟨qz11_⟩, ⟨qz10_⟩⟩
     ·
      rw [if_neg c22] at H
      have c22b0 : (a0_0 == 6) = false := beq_eq_false_iff_ne.mpr c22
      have c22b1 : (a0_0 != 6) = true := bne_iff_ne.mpr c22
      have H' := am_ H
      clear H
      go_wp2
      repeat (go_quiet (fail); try go_wp2)
      go_meet
      case rel => exact ⟨_, ((a0_0 == 7)), qz2_, H', ⟨qz14_⟩, ⟨qz11_⟩, ⟨qz10_⟩⟩
  case rest =>
   clear HC17
   try clear c1
   try clear c2
   try clear p2
   try clear c3
   try clear c3b0
   try clear c3b1
   try clear c6
   try clear c7
   try clear c7b0
   try clear c7b1
   try clear c8
   try clear c8b0
   try clear c8b1
   try clear c10
   try clear c20
   try clear c20b0
   try clear c20b1
   try clear c21
   try clear c21b0
   try clear c21b1
   try clear c22
   try clear c22b0
   try clear c22b1
   try clear hcz10_0
   try clear hcz10_1
   try clear hcz10_2
   try clear hcz10_3
   try clear hcz12_0
   try clear hcz12_1
   try clear hcz12_2
   try clear hcz12_3
   try clear hcz14_0
   try clear hcz14_1
   try clear hcz14_2
   try clear hcz14_3
   try clear hcz16_0
   try clear hcz16_1
   try clear hcz16_2
   try clear hcz16_3
   try clear hcz19_0
   try clear hcz19_1
   try clear hcz19_2
   try clear hcz19_3
   try clear hfz10_0
   try clear hfz10_1
   try clear hfz10_2
   try clear hfz10_3
   try clear hfz12_0
   try clear hfz12_1
   try clear hfz12_2
   try clear hfz12_3
   try clear hfz14_0
   try clear hfz14_1
   try clear hfz14_2
   try clear hfz14_3
   try clear hfz16_0
   try clear hfz16_1
   try clear hfz16_2
   try clear hfz16_3
   try clear hfz19_0
   try clear hfz19_1
   try clear hfz19_2
   try clear hfz19_3
   obtain ⟨kq, x24_16, rfl, HA, HJ16, BK101, HB⟩ := hcut
   cases kq with
   | zero => exact absurd HA.out (by simp [impl_isGate.j0])
   | succ kj16 =>
    have H := HA.out
    clear HA
    simp only [impl_isGate.j0] at H
    by_cases c23 : x24_16 = true
    ·
     subst c23
     have H1 : ((impl_in.f a0_1 0 (wrap64 (a1 - 1))).bind fun t104 => ((impl_in.f a0_2 0 (wrap64 (a1 - 1))).bind fun t105 => ((impl_in.f a0_0 1 8).bind fun t106 => (if t106 = true then (if t104 = true then (if t105 = true then (some (a0_3 == 0)) else (some false)) else (some false)) else (some false))))) = some r := by rw [if_pos rfl] at H; exact H
     clear H
     have H := H1
     clear H1
     replace H := Option.bind_eq_some_iff.mp H
     obtain ⟨t104, A240, H⟩ := H
     replace H : ((impl_in.f a0_2 0 (wrap64 (a1 - 1))).bind fun t105 => ((impl_in.f a0_0 1 8).bind fun t106 => (if t106 = true then (if t104 = true then (if t105 = true then (some (a0_3 == 0)) else (some false)) else (some false)) else (some false)))) = some r := H
     have A24 := am_ A240
     clear A240
     replace H := Option.bind_eq_some_iff.mp H
     obtain ⟨t105, A250, H⟩ := H
     replace H : ((impl_in.f a0_0 1 8).bind fun t106 => (if t106 = true then (if t104 = true then (if t105 = true then (some (a0_3 == 0)) else (some false)) else (some false)) else (some false))) = some r := H
     have A25 := am_ A250
     clear A250
     replace H := Option.bind_eq_some_iff.mp H
     obtain ⟨t106, A260, H⟩ := H
     replace H : (if t106 = true then (if t104 = true then (if t105 = true then (some (a0_3 == 0)) else (some false)) else (some false)) else (some false)) = some r := H
     have A26 := am_ A260
     clear A260
     by_cases c27 : t106 = true
     ·
      subst c27
      have H1 : (if t104 = true then (if t105 = true then (some (a0_3 == 0)) else (some false)) else (some false)) = some r := by rw [if_pos rfl] at H; exact H
      clear H
      have H := H1
      clear H1
      by_cases c28 : t104 = true
      ·
       subst c28
       have H1 : (if t105 = true then (some (a0_3 == 0)) else (some false)) = some r := by rw [if_pos rfl] at H; exact H
       clear H
       have H := H1
       clear H1
       by_cases c29 : t105 = true
       ·
        subst c29
        have H1 : (some (a0_3 == 0)) = some r := by rw [if_pos rfl] at H; exact H
        clear H
        have H := H1
        clear H1
        obtain rfl := Option.some.inj H
        have hcz30_0 : wc.cell? ⟨gb101, 0, none⟩ = some (.int .i64 a0_0) := (blk_cell BK101.out 0).trans rfl
        have hcz30_1 : wc.cell? ⟨gb101, 1, none⟩ = some (.int .i64 a0_1) := (blk_cell BK101.out 1).trans rfl
        have hcz30_2 : wc.cell? ⟨gb101, 2, none⟩ = some (.int .i64 a0_2) := (blk_cell BK101.out 2).trans rfl
        have hcz30_3 : wc.cell? ⟨gb101, 3, none⟩ = some (.int .i64 a0_3) := (blk_cell BK101.out 3).trans rfl
        have hfz30_0 := blk_frozen BK101.out 0
        have hfz30_1 := blk_frozen BK101.out 1
        have hfz30_2 := blk_frozen BK101.out 2
        have hfz30_3 := blk_frozen BK101.out 3
        go_wp2_with (first | (go_at_call 45; (with_reducible refine (impl_in.calls a0_1 0 (wrap64 (a1 - 1)) true _ A24.out).mono ?_); rintro e w' ⟨rfl, ⟨nd, rfl⟩⟩; (try first | exact ⟨rfl, _, qd1_⟩ | exact ⟨rfl, _, qd2_⟩)) | (go_at_call 45; (with_reducible refine (impl_in.calls a0_2 0 (wrap64 (a1 - 1)) true _ A25.out).mono ?_); rintro e w' ⟨rfl, ⟨nd, rfl⟩⟩; (try first | exact ⟨rfl, _, qd1_⟩ | exact ⟨rfl, _, qd2_⟩)) | (go_at_call 45; (with_reducible refine (impl_in.calls a0_0 1 8 true _ A26.out).mono ?_); rintro e w' ⟨rfl, ⟨nd, rfl⟩⟩; (try first | exact ⟨rfl, _, qd1_⟩ | exact ⟨rfl, _, qd2_⟩)))
        repeat (go_quiet (first | (go_at_call 45; (with_reducible refine (impl_in.calls a0_1 0 (wrap64 (a1 - 1)) true _ A24.out).mono ?_); rintro e w' ⟨rfl, ⟨nd, rfl⟩⟩; (try first | exact ⟨rfl, _, qd1_⟩ | exact ⟨rfl, _, qd2_⟩)) | (go_at_call 45; (with_reducible refine (impl_in.calls a0_2 0 (wrap64 (a1 - 1)) true _ A25.out).mono ?_); rintro e w' ⟨rfl, ⟨nd, rfl⟩⟩; (try first | exact ⟨rfl, _, qd1_⟩ | exact ⟨rfl, _, qd2_⟩)) | (go_at_call 45; (with_reducible refine (impl_in.calls a0_0 1 8 true _ A26.out).mono ?_); rintro e w' ⟨rfl, ⟨nd, rfl⟩⟩; (try first | exact ⟨rfl, _, qd1_⟩ | exact ⟨rfl, _, qd2_⟩))); try go_wp2_with (first | (go_at_call 45; (with_reducible refine (impl_in.calls a0_1 0 (wrap64 (a1 - 1)) true _ A24.out).mono ?_); rintro e w' ⟨rfl, ⟨nd, rfl⟩⟩; (try first | exact ⟨rfl, _, qd1_⟩ | exact ⟨rfl, _, qd2_⟩)) | (go_at_call 45; (with_reducible refine (impl_in.calls a0_2 0 (wrap64 (a1 - 1)) true _ A25.out).mono ?_); rintro e w' ⟨rfl, ⟨nd, rfl⟩⟩; (try first | exact ⟨rfl, _, qd1_⟩ | exact ⟨rfl, _, qd2_⟩)) | (go_at_call 45; (with_reducible refine (impl_in.calls a0_0 1 8 true _ A26.out).mono ?_); rintro e w' ⟨rfl, ⟨nd, rfl⟩⟩; (try first | exact ⟨rfl, _, qd1_⟩ | exact ⟨rfl, _, qd2_⟩))))
        go_ret
        exact ⟨qz5_, qz10_⟩
       ·
        replace c29 := Bool.eq_false_iff.mpr c29
        subst c29
        have H1 : (some false) = some r := by rw [if_neg (show ¬ (false = true) by decide)] at H; exact H
        clear H
        have H := H1
        clear H1
        obtain rfl := Option.some.inj H
        have hcz31_0 : wc.cell? ⟨gb101, 0, none⟩ = some (.int .i64 a0_0) := (blk_cell BK101.out 0).trans rfl
        have hcz31_1 : wc.cell? ⟨gb101, 1, none⟩ = some (.int .i64 a0_1) := (blk_cell BK101.out 1).trans rfl
        have hcz31_2 : wc.cell? ⟨gb101, 2, none⟩ = some (.int .i64 a0_2) := (blk_cell BK101.out 2).trans rfl
        have hcz31_3 : wc.cell? ⟨gb101, 3, none⟩ = some (.int .i64 a0_3) := (blk_cell BK101.out 3).trans rfl
        have hfz31_0 := blk_frozen BK101.out 0
        have hfz31_1 := blk_frozen BK101.out 1
        have hfz31_2 := blk_frozen BK101.out 2
        have hfz31_3 := blk_frozen BK101.out 3
        go_wp2_with (first | (go_at_call 45; (with_reducible refine (impl_in.calls a0_1 0 (wrap64 (a1 - 1)) true _ A24.out).mono ?_); rintro e w' ⟨rfl, ⟨nd, rfl⟩⟩; (try first | exact ⟨rfl, _, qd1_⟩ | exact ⟨rfl, _, qd2_⟩)) | (go_at_call 45; (with_reducible refine (impl_in.calls a0_2 0 (wrap64 (a1 - 1)) false _ A25.out).mono ?_); rintro e w' ⟨rfl, ⟨nd, rfl⟩⟩; (try first | exact ⟨rfl, _, qd1_⟩ | exact ⟨rfl, _, qd2_⟩)) | (go_at_call 45; (with_reducible refine (impl_in.calls a0_0 1 8 true _ A26.out).mono ?_); rintro e w' ⟨rfl, ⟨nd, rfl⟩⟩; (try first | exact ⟨rfl, _, qd1_⟩ | exact ⟨rfl, _, qd2_⟩)))
        repeat (go_quiet (first | (go_at_call 45; (with_reducible refine (impl_in.calls a0_1 0 (wrap64 (a1 - 1)) true _ A24.out).mono ?_); rintro e w' ⟨rfl, ⟨nd, rfl⟩⟩; (try first | exact ⟨rfl, _, qd1_⟩ | exact ⟨rfl, _, qd2_⟩)) | (go_at_call 45; (with_reducible refine (impl_in.calls a0_2 0 (wrap64 (a1 - 1)) false _ A25.out).mono ?_); rintro e w' ⟨rfl, ⟨nd, rfl⟩⟩; (try first | exact ⟨rfl, _, qd1_⟩ | exact ⟨rfl, _, qd2_⟩)) | (go_at_call 45; (with_reducible refine (impl_in.calls a0_0 1 8 true _ A26.out).mono ?_); rintro e w' ⟨rfl, ⟨nd, rfl⟩⟩; (try first | exact ⟨rfl, _, qd1_⟩ | exact ⟨rfl, _, qd2_⟩))); try go_wp2_with (first | (go_at_call 45; (with_reducible refine (impl_in.calls a0_1 0 (wrap64 (a1 - 1)) true _ A24.out).mono ?_); rintro e w' ⟨rfl, ⟨nd, rfl⟩⟩; (try first | exact ⟨rfl, _, qd1_⟩ | exact ⟨rfl, _, qd2_⟩)) | (go_at_call 45; (with_reducible refine (impl_in.calls a0_2 0 (wrap64 (a1 - 1)) false _ A25.out).mono ?_); rintro e w' ⟨rfl, ⟨nd, rfl⟩⟩; (try first | exact ⟨rfl, _, qd1_⟩ | exact ⟨rfl, _, qd2_⟩)) | (go_at_call 45; (with_reducible refine (impl_in.calls a0_0 1 8 true _ A26.out).mono ?_); rintro e w' ⟨rfl, ⟨nd, rfl⟩⟩; (try first | exact ⟨rfl, _, qd1_⟩ | exact ⟨rfl, _, qd2_⟩))))
        go_ret
        exact ⟨qz5_, qz10_⟩
      ·
       replace c28 := Bool.eq_false_iff.mpr c28
       subst c28
       have H1 : (some false) = some r := by rw [if_neg (show ¬ (false = true) by decide)] at H; exact H
       clear H
       have H := H1
       clear H1
       obtain rfl := Option.some.inj H
       have hcz32_0 : wc.cell? ⟨gb101, 0, none⟩ = some (.int .i64 a0_0) := (blk_cell BK101.out 0).trans rfl
       have hcz32_1 : wc.cell? ⟨gb101, 1, none⟩ = some (.int .i64 a0_1) := (blk_cell BK101.out 1).trans rfl
       have hcz32_2 : wc.cell? ⟨gb101, 2, none⟩ = some (.int .i64 a0_2) := (blk_cell BK101.out 2).trans rfl
       have hcz32_3 : wc.cell? ⟨gb101, 3, none⟩ = some (.int .i64 a0_3) := (blk_cell BK101.out 3).trans rfl
       have hfz32_0 := blk_frozen BK101.out 0
       have hfz32_1 := blk_frozen BK101.out 1
       have hfz32_2 := blk_frozen BK101.out 2
       have hfz32_3 := blk_frozen BK101.out 3
       go_wp2_with (first | (go_at_call 45; (with_reducible refine (impl_in.calls a0_1 0 (wrap64 (a1 - 1)) false _ A24.out).mono ?_); rintro e w' ⟨rfl, ⟨nd, rfl⟩⟩; (try first | exact ⟨rfl, _, qd1_⟩ | exact ⟨rfl, _, qd2_⟩)) | (go_at_call 45; (with_reducible refine (impl_in.calls a0_2 0 (wrap64 (a1 - 1)) t105 _ A25.out).mono ?_); rintro e w' ⟨rfl, ⟨nd, rfl⟩⟩; (try first | exact ⟨rfl, _, qd1_⟩ | exact ⟨rfl, _, qd2_⟩)) | (go_at_call 45; (with_reducible refine (impl_in.calls a0_0 1 8 true _ A26.out).mono ?_); rintro e w' ⟨rfl, ⟨nd, rfl⟩⟩; (try first | exact ⟨rfl, _, qd1_⟩ | exact ⟨rfl, _, qd2_⟩)))
       repeat (go_quiet (first | (go_at_call 45; (with_reducible refine (impl_in.calls a0_1 0 (wrap64 (a1 - 1)) false _ A24.out).mono ?_); rintro e w' ⟨rfl, ⟨nd, rfl⟩⟩; (try first | exact ⟨rfl, _, qd1_⟩ | exact ⟨rfl, _, qd2_⟩)) | (go_at_call 45; (with_reducible refine (impl_in.calls a0_2 0 (wrap64 (a1 - 1)) t105 _ A25.out).mono ?_); rintro e w' ⟨rfl, ⟨nd, rfl⟩⟩; (try first | exact ⟨rfl, _, qd1_⟩ | exact ⟨rfl, _, qd2_⟩)) | (go_at_call 45; (with_reducible refine (impl_in.calls a0_0 1 8 true _ A26.out).mono ?_); rintro e w' ⟨rfl, ⟨nd, rfl⟩⟩; (try first | exact ⟨rfl, _, qd1_⟩ | exact ⟨rfl, _, qd2_⟩))); try go_wp2_with (first | (go_at_call 45; (with_reducible refine (impl_in.calls a0_1 0 (wrap64 (a1 - 1)) false _ A24.out).mono ?_); rintro e w' ⟨rfl, ⟨nd, rfl⟩⟩; (try first | exact ⟨rfl, _, qd1_⟩ | exact ⟨rfl, _, qd2_⟩)) | (go_at_call 45; (with_reducible refine (impl_in.calls a0_2 0 (wrap64 (a1 - 1)) t105 _ A25.out).mono ?_); rintro e w' ⟨rfl, ⟨nd, rfl⟩⟩; (try first | exact ⟨rfl, _, qd1_⟩ | exact ⟨rfl, _, qd2_⟩)) | (go_at_call 45; (with_reducible refine (impl_in.calls a0_0 1 8 true _ A26.out).mono ?_); rintro e w' ⟨rfl, ⟨nd, rfl⟩⟩; (try first | exact ⟨rfl, _, qd1_⟩ | exact ⟨rfl, _, qd2_⟩))))
       go_ret
       exact ⟨qz5_, qz10_⟩
     ·
      replace c27 := Bool.eq_false_iff.mpr c27
      subst c27
      have H1 : (some false) = some r := by rw [if_neg (show ¬ (false = true) by decide)] at H; exact H
      clear H
      have H := H1
      clear H1
      obtain rfl := Option.some.inj H
      have hcz33_0 : wc.cell? ⟨gb101, 0, none⟩ = some (.int .i64 a0_0) := (blk_cell BK101.out 0).trans rfl
      have hcz33_1 : wc.cell? ⟨gb101, 1, none⟩ = some (.int .i64 a0_1) := (blk_cell BK101.out 1).trans rfl
      have hcz33_2 : wc.cell? ⟨gb101, 2, none⟩ = some (.int .i64 a0_2) := (blk_cell BK101.out 2).trans rfl
      have hcz33_3 : wc.cell? ⟨gb101, 3, none⟩ = some (.int .i64 a0_3) := (blk_cell BK101.out 3).trans rfl
      have hfz33_0 := blk_frozen BK101.out 0
      have hfz33_1 := blk_frozen BK101.out 1
      have hfz33_2 := blk_frozen BK101.out 2
      have hfz33_3 := blk_frozen BK101.out 3
      go_wp2_with (first | (go_at_call 45; (with_reducible refine (impl_in.calls a0_1 0 (wrap64 (a1 - 1)) t104 _ A24.out).mono ?_); rintro e w' ⟨rfl, ⟨nd, rfl⟩⟩; (try first | exact ⟨rfl, _, qd1_⟩ | exact ⟨rfl, _, qd2_⟩)) | (go_at_call 45; (with_reducible refine (impl_in.calls a0_2 0 (wrap64 (a1 - 1)) t105 _ A25.out).mono ?_); rintro e w' ⟨rfl, ⟨nd, rfl⟩⟩; (try first | exact ⟨rfl, _, qd1_⟩ | exact ⟨rfl, _, qd2_⟩)) | (go_at_call 45; (with_reducible refine (impl_in.calls a0_0 1 8 false _ A26.out).mono ?_); rintro e w' ⟨rfl, ⟨nd, rfl⟩⟩; (try first | exact ⟨rfl, _, qd1_⟩ | exact ⟨rfl, _, qd2_⟩)))
      repeat (go_quiet (first | (go_at_call 45; (with_reducible refine (impl_in.calls a0_1 0 (wrap64 (a1 - 1)) t104 _ A24.out).mono ?_); rintro e w' ⟨rfl, ⟨nd, rfl⟩⟩; (try first | exact ⟨rfl, _, qd1_⟩ | exact ⟨rfl, _, qd2_⟩)) | (go_at_call 45; (with_reducible refine (impl_in.calls a0_2 0 (wrap64 (a1 - 1)) t105 _ A25.out).mono ?_); rintro e w' ⟨rfl, ⟨nd, rfl⟩⟩; (try first | exact ⟨rfl, _, qd1_⟩ | exact ⟨rfl, _, qd2_⟩)) | (go_at_call 45; (with_reducible refine (impl_in.calls a0_0 1 8 false _ A26.out).mono ?_); rintro e w' ⟨rfl, ⟨nd, rfl⟩⟩; (try first | exact ⟨rfl, _, qd1_⟩ | exact ⟨rfl, _, qd2_⟩))); try go_wp2_with (first | (go_at_call 45; (with_reducible refine (impl_in.calls a0_1 0 (wrap64 (a1 - 1)) t104 _ A24.out).mono ?_); rintro e w' ⟨rfl, ⟨nd, rfl⟩⟩; (try first | exact ⟨rfl, _, qd1_⟩ | exact ⟨rfl, _, qd2_⟩)) | (go_at_call 45; (with_reducible refine (impl_in.calls a0_2 0 (wrap64 (a1 - 1)) t105 _ A25.out).mono ?_); rintro e w' ⟨rfl, ⟨nd, rfl⟩⟩; (try first | exact ⟨rfl, _, qd1_⟩ | exact ⟨rfl, _, qd2_⟩)) | (go_at_call 45; (with_reducible refine (impl_in.calls a0_0 1 8 false _ A26.out).mono ?_); rintro e w' ⟨rfl, ⟨nd, rfl⟩⟩; (try first | exact ⟨rfl, _, qd1_⟩ | exact ⟨rfl, _, qd2_⟩))))
      go_ret
      exact ⟨qz5_, qz10_⟩
    ·
     replace c23 := Bool.eq_false_iff.mpr c23
     subst c23
     have H1 : (if a0_0 = 8 then ((impl_in.f a0_1 0 (wrap64 (a1 - 1))).bind fun t107 => ((impl_in.f a0_0 1 8).bind fun t108 => (if t108 = true then (if t107 = true then (if (a0_2 == 0) = true then (some (a0_3 == 0)) else (some false)) else (some false)) else (some false)))) else ((impl_in.f a0_0 1 8).bind fun t109 => (if t109 = true then (if (a0_1 == 0) = true then (if (a0_2 == 0) = true then (some (a0_3 == 0)) else (some false)) else (some false)) else (some false)))) = some r := by rw [if_neg (show ¬ (false = true) by decide)] at H; exact H
     clear H
     have H := H1
     clear H1
     by_cases c34 : a0_0 = 8
     ·
      rw [if_pos c34] at H
      have c34b0 : (a0_0 == 8) = true := beq_iff_eq.mpr c34
      have c34b1 : (a0_0 != 8) = false := bne_eq_false_iff_eq.mpr c34
      clear c34
      replace H := Option.bind_eq_some_iff.mp H
      obtain ⟨t107, A350, H⟩ := H
      replace H : ((impl_in.f a0_0 1 8).bind fun t108 => (if t108 = true then (if t107 = true then (if (a0_2 == 0) = true then (some (a0_3 == 0)) else (some false)) else (some false)) else (some false))) = some r := H
      have A35 := am_ A350
      clear A350
      replace H := Option.bind_eq_some_iff.mp H
      obtain ⟨t108, A360, H⟩ := H
      replace H : (if t108 = true then (if t107 = true then (if (a0_2 == 0) = true then (some (a0_3 == 0)) else (some false)) else (some false)) else (some false)) = some r := H
      have A36 := am_ A360
      clear A360
      by_cases c37 : t108 = true
      ·
       subst c37
       have H1 : (if t107 = true then (if (a0_2 == 0) = true then (some (a0_3 == 0)) else (some false)) else (some false)) = some r := by rw [if_pos rfl] at H; exact H
       clear H
       have H := H1
       clear H1
       by_cases c38 : t107 = true
       ·
        subst c38
        have H1 : (if (a0_2 == 0) = true then (some (a0_3 == 0)) else (some false)) = some r := by rw [if_pos rfl] at H; exact H
        clear H
        have H := H1
        clear H1
        by_cases c39 : (a0_2 == 0) = true
        ·
         rw [if_pos c39] at H
         have c39b0 : (a0_2 == 0) = true := c39
         (try (have c39b1 : decide (a0_2 = 0) = true := by simpa using c39))
         (try (have c39b2 : (a0_2 == 0) = true := by simpa using c39))
         clear c39
         obtain rfl := Option.some.inj H
         have hcz40_0 : wc.cell? ⟨gb101, 0, none⟩ = some (.int .i64 a0_0) := (blk_cell BK101.out 0).trans rfl
         have hcz40_1 : wc.cell? ⟨gb101, 1, none⟩ = some (.int .i64 a0_1) := (blk_cell BK101.out 1).trans rfl
         have hcz40_2 : wc.cell? ⟨gb101, 2, none⟩ = some (.int .i64 a0_2) := (blk_cell BK101.out 2).trans rfl
         have hcz40_3 : wc.cell? ⟨gb101, 3, none⟩ = some (.int .i64 a0_3) := (blk_cell BK101.out 3).trans rfl
         have hfz40_0 := blk_frozen BK101.out 0
         have hfz40_1 := blk_frozen BK101.out 1
         have hfz40_2 := blk_frozen BK101.out 2
         have hfz40_3 := blk_frozen BK101.out 3
         go_wp2_with (first | (go_at_call 45; (with_reducible refine (impl_in.calls a0_1 0 (wrap64 (a1 - 1)) true _ A35.out).mono ?_); rintro e w' ⟨rfl, ⟨nd, rfl⟩⟩; (try first | exact ⟨rfl, _, qd1_⟩ | exact ⟨rfl, _, qd2_⟩)) | (go_at_call 45; (with_reducible refine (impl_in.calls a0_0 1 8 true _ A36.out).mono ?_); rintro e w' ⟨rfl, ⟨nd, rfl⟩⟩; (try first | exact ⟨rfl, _, qd1_⟩ | exact ⟨rfl, _, qd2_⟩)))
         repeat (go_quiet (first | (go_at_call 45; (with_reducible refine (impl_in.calls a0_1 0 (wrap64 (a1 - 1)) true _ A35.out).mono ?_); rintro e w' ⟨rfl, ⟨nd, rfl⟩⟩; (try first | exact ⟨rfl, _, qd1_⟩ | exact ⟨rfl, _, qd2_⟩)) | (go_at_call 45; (with_reducible refine (impl_in.calls a0_0 1 8 true _ A36.out).mono ?_); rintro e w' ⟨rfl, ⟨nd, rfl⟩⟩; (try first | exact ⟨rfl, _, qd1_⟩ | exact ⟨rfl, _, qd2_⟩))); try go_wp2_with (first | (go_at_call 45; (with_reducible refine (impl_in.calls a0_1 0 (wrap64 (a1 - 1)) true _ A35.out).mono ?_); rintro e w' ⟨rfl, ⟨nd, rfl⟩⟩; (try first | exact ⟨rfl, _, qd1_⟩ | exact ⟨rfl, _, qd2_⟩)) | (go_at_call 45; (with_reducible refine (impl_in.calls a0_0 1 8 true _ A36.out).mono ?_); rintro e w' ⟨rfl, ⟨nd, rfl⟩⟩; (try first | exact ⟨rfl, _, qd1_⟩ | exact ⟨rfl, _, qd2_⟩))))
         go_ret
         exact ⟨qz5_, qz10_⟩
        ·
         rw [if_neg c39] at H
         have c39b0 : (a0_2 == 0) = false := by simpa using c39
         (try (have c39b1 : decide (a0_2 = 0) = false := by simpa using c39))
         (try (have c39b2 : (a0_2 == 0) = false := by simpa using c39))
         (try (have c39b3 : ¬ (a0_2 = 0) := by simpa using c39))
         clear c39
         obtain rfl := Option.some.inj H
         have hcz41_0 : wc.cell? ⟨gb101, 0, none⟩ = some (.int .i64 a0_0) := (blk_cell BK101.out 0).trans rfl
         have hcz41_1 : wc.cell? ⟨gb101, 1, none⟩ = some (.int .i64 a0_1) := (blk_cell BK101.out 1).trans rfl
         have hcz41_2 : wc.cell? ⟨gb101, 2, none⟩ = some (.int .i64 a0_2) := (blk_cell BK101.out 2).trans rfl
         have hcz41_3 : wc.cell? ⟨gb101, 3, none⟩ = some (.int .i64 a0_3) := (blk_cell BK101.out 3).trans rfl
         have hfz41_0 := blk_frozen BK101.out 0
         have hfz41_1 := blk_frozen BK101.out 1
         have hfz41_2 := blk_frozen BK101.out 2
         have hfz41_3 := blk_frozen BK101.out 3
         go_wp2_with (first | (go_at_call 45; (with_reducible refine (impl_in.calls a0_1 0 (wrap64 (a1 - 1)) true _ A35.out).mono ?_); rintro e w' ⟨rfl, ⟨nd, rfl⟩⟩; (try first | exact ⟨rfl, _, qd1_⟩ | exact ⟨rfl, _, qd2_⟩)) | (go_at_call 45; (with_reducible refine (impl_in.calls a0_0 1 8 true _ A36.out).mono ?_); rintro e w' ⟨rfl, ⟨nd, rfl⟩⟩; (try first | exact ⟨rfl, _, qd1_⟩ | exact ⟨rfl, _, qd2_⟩)))
         repeat (go_quiet (first | (go_at_call 45; (with_reducible refine (impl_in.calls a0_1 0 (wrap64 (a1 - 1)) true _ A35.out).mono ?_); rintro e w' ⟨rfl, ⟨nd, rfl⟩⟩; (try first | exact ⟨rfl, _, qd1_⟩ | exact ⟨rfl, _, qd2_⟩)) | (go_at_call 45; (with_reducible refine (impl_in.calls a0_0 1 8 true _ A36.out).mono ?_); rintro e w' ⟨rfl, ⟨nd, rfl⟩⟩; (try first | exact ⟨rfl, _, qd1_⟩ | exact ⟨rfl, _, qd2_⟩))); try go_wp2_with (first | (go_at_call 45; (with_reducible refine (impl_in.calls a0_1 0 (wrap64 (a1 - 1)) true _ A35.out).mono ?_); rintro e w' ⟨rfl, ⟨nd, rfl⟩⟩; (try first | exact ⟨rfl, _, qd1_⟩ | exact ⟨rfl, _, qd2_⟩)) | (go_at_call 45; (with_reducible refine (impl_in.calls a0_0 1 8 true _ A36.out).mono ?_); rintro e w' ⟨rfl, ⟨nd, rfl⟩⟩; (try first | exact ⟨rfl, _, qd1_⟩ | exact ⟨rfl, _, qd2_⟩))))
         go_ret
         exact ⟨qz5_, qz10_⟩
       ·
        replace c38 := Bool.eq_false_iff.mpr c38
        subst c38
        have H1 : (some false) = some r := by rw [if_neg (show ¬ (false = true) by decide)] at H; exact H
        clear H
        have H := H1
        clear H1
        obtain rfl := Option.some.inj H
        have hcz42_0 : wc.cell? ⟨gb101, 0, none⟩ = some (.int .i64 a0_0) := (blk_cell BK101.out 0).trans rfl
        have hcz42_1 : wc.cell? ⟨gb101, 1, none⟩ = some (.int .i64 a0_1) := (blk_cell BK101.out 1).trans rfl
        have hcz42_2 : wc.cell? ⟨gb101, 2, none⟩ = some (.int .i64 a0_2) := (blk_cell BK101.out 2).trans rfl
        have hcz42_3 : wc.cell? ⟨gb101, 3, none⟩ = some (.int .i64 a0_3) := (blk_cell BK101.out 3).trans rfl
        have hfz42_0 := blk_frozen BK101.out 0
        have hfz42_1 := blk_frozen BK101.out 1
        have hfz42_2 := blk_frozen BK101.out 2
        have hfz42_3 := blk_frozen BK101.out 3
        go_wp2_with (first | (go_at_call 45; (with_reducible refine (impl_in.calls a0_1 0 (wrap64 (a1 - 1)) false _ A35.out).mono ?_); rintro e w' ⟨rfl, ⟨nd, rfl⟩⟩; (try first | exact ⟨rfl, _, qd1_⟩ | exact ⟨rfl, _, qd2_⟩)) | (go_at_call 45; (with_reducible refine (impl_in.calls a0_0 1 8 true _ A36.out).mono ?_); rintro e w' ⟨rfl, ⟨nd, rfl⟩⟩; (try first | exact ⟨rfl, _, qd1_⟩ | exact ⟨rfl, _, qd2_⟩)))
        repeat (go_quiet (first | (go_at_call 45; (with_reducible refine (impl_in.calls a0_1 0 (wrap64 (a1 - 1)) false _ A35.out).mono ?_); rintro e w' ⟨rfl, ⟨nd, rfl⟩⟩; (try first | exact ⟨rfl, _, qd1_⟩ | exact ⟨rfl, _, qd2_⟩)) | (go_at_call 45; (with_reducible refine (impl_in.calls a0_0 1 8 true _ A36.out).mono ?_); rintro e w' ⟨rfl, ⟨nd, rfl⟩⟩; (try first | exact ⟨rfl, _, qd1_⟩ | exact ⟨rfl, _, qd2_⟩))); try go_wp2_with (first | (go_at_call 45; (with_reducible refine (impl_in.calls a0_1 0 (wrap64 (a1 - 1)) false _ A35.out).mono ?_); rintro e w' ⟨rfl, ⟨nd, rfl⟩⟩; (try first | exact ⟨rfl, _, qd1_⟩ | exact ⟨rfl, _, qd2_⟩)) | (go_at_call 45; (with_reducible refine (impl_in.calls a0_0 1 8 true _ A36.out).mono ?_); rintro e w' ⟨rfl, ⟨nd, rfl⟩⟩; (try first | exact ⟨rfl, _, qd1_⟩ | exact ⟨rfl, _, qd2_⟩))))
        go_ret
        exact ⟨qz5_, qz10_⟩
      ·
       replace c37 := Bool.eq_false_iff.mpr c37
       subst c37
       have H1 : (some false) = some r := by rw [if_neg (show ¬ (false = true) by decide)] at H; exact H
       clear H
       have H := H1
       clear H1
       obtain rfl := Option.some.inj H
       have hcz43_0 : wc.cell? ⟨gb101, 0, none⟩ = some (.int .i64 a0_0) := (blk_cell BK101.out 0).trans rfl
       have hcz43_1 : wc.cell? ⟨gb101, 1, none⟩ = some (.int .i64 a0_1) := (blk_cell BK101.out 1).trans rfl
       have hcz43_2 : wc.cell? ⟨gb101, 2, none⟩ = some (.int .i64 a0_2) := (blk_cell BK101.out 2).trans rfl
       have hcz43_3 : wc.cell? ⟨gb101, 3, none⟩ = some (.int .i64 a0_3) := (blk_cell BK101.out 3).trans rfl
       have hfz43_0 := blk_frozen BK101.out 0
       have hfz43_1 := blk_frozen BK101.out 1
       have hfz43_2 := blk_frozen BK101.out 2
       have hfz43_3 := blk_frozen BK101.out 3
       go_wp2_with (first | (go_at_call 45; (with_reducible refine (impl_in.calls a0_1 0 (wrap64 (a1 - 1)) t107 _ A35.out).mono ?_); rintro e w' ⟨rfl, ⟨nd, rfl⟩⟩; (try first | exact ⟨rfl, _, qd1_⟩ | exact ⟨rfl, _, qd2_⟩)) | (go_at_call 45; (with_reducible refine (impl_in.calls a0_0 1 8 false _ A36.out).mono ?_); rintro e w' ⟨rfl, ⟨nd, rfl⟩⟩; (try first | exact ⟨rfl, _, qd1_⟩ | exact ⟨rfl, _, qd2_⟩)))
       repeat (go_quiet (first | (go_at_call 45; (with_reducible refine (impl_in.calls a0_1 0 (wrap64 (a1 - 1)) t107 _ A35.out).mono ?_); rintro e w' ⟨rfl, ⟨nd, rfl⟩⟩; (try first | exact ⟨rfl, _, qd1_⟩ | exact ⟨rfl, _, qd2_⟩)) | (go_at_call 45; (with_reducible refine (impl_in.calls a0_0 1 8 false _ A36.out).mono ?_); rintro e w' ⟨rfl, ⟨nd, rfl⟩⟩; (try first | exact ⟨rfl, _, qd1_⟩ | exact ⟨rfl, _, qd2_⟩))); try go_wp2_with (first | (go_at_call 45; (with_reducible refine (impl_in.calls a0_1 0 (wrap64 (a1 - 1)) t107 _ A35.out).mono ?_); rintro e w' ⟨rfl, ⟨nd, rfl⟩⟩; (try first | exact ⟨rfl, _, qd1_⟩ | exact ⟨rfl, _, qd2_⟩)) | (go_at_call 45; (with_reducible refine (impl_in.calls a0_0 1 8 false _ A36.out).mono ?_); rintro e w' ⟨rfl, ⟨nd, rfl⟩⟩; (try first | exact ⟨rfl, _, qd1_⟩ | exact ⟨rfl, _, qd2_⟩))))
       go_ret
       exact ⟨qz5_, qz10_⟩
     ·
      rw [if_neg c34] at H
      have c34b0 : (a0_0 == 8) = false := beq_eq_false_iff_ne.mpr c34
      have c34b1 : (a0_0 != 8) = true := bne_iff_ne.mpr c34
      replace H := Option.bind_eq_some_iff.mp H
      obtain ⟨t109, A440, H⟩ := H
      replace H : (if t109 = true then (if (a0_1 == 0) = true then (if (a0_2 == 0) = true then (some (a0_3 == 0)) else (some false)) else (some false)) else (some false)) = some r := H
      have A44 := am_ A440
      clear A440
      by_cases c45 : t109 = true
      ·
       subst c45
       have H1 : (if (a0_1 == 0) = true then (if (a0_2 == 0) = true then (some (a0_3 == 0)) else (some false)) else (some false)) = some r := by rw [if_pos rfl] at H; exact H
       clear H
       have H := H1
       clear H1
       by_cases c46 : (a0_1 == 0) = true
       ·
        rw [if_pos c46] at H
        have c46b0 : (a0_1 == 0) = true := c46
        (try (have c46b1 : decide (a0_1 = 0) = true := by simpa using c46))
        (try (have c46b2 : (a0_1 == 0) = true := by simpa using c46))
        clear c46
        by_cases c47 : (a0_2 == 0) = true
        ·
         rw [if_pos c47] at H
         have c47b0 : (a0_2 == 0) = true := c47
         (try (have c47b1 : decide (a0_2 = 0) = true := by simpa using c47))
         (try (have c47b2 : (a0_2 == 0) = true := by simpa using c47))
         clear c47
         obtain rfl := Option.some.inj H
         have hcz48_0 : wc.cell? ⟨gb101, 0, none⟩ = some (.int .i64 a0_0) := (blk_cell BK101.out 0).trans rfl
         have hcz48_1 : wc.cell? ⟨gb101, 1, none⟩ = some (.int .i64 a0_1) := (blk_cell BK101.out 1).trans rfl
         have hcz48_2 : wc.cell? ⟨gb101, 2, none⟩ = some (.int .i64 a0_2) := (blk_cell BK101.out 2).trans rfl
         have hcz48_3 : wc.cell? ⟨gb101, 3, none⟩ = some (.int .i64 a0_3) := (blk_cell BK101.out 3).trans rfl
         have hfz48_0 := blk_frozen BK101.out 0
         have hfz48_1 := blk_frozen BK101.out 1
         have hfz48_2 := blk_frozen BK101.out 2
         have hfz48_3 := blk_frozen BK101.out 3
         go_wp2_with (first | (go_at_call 45; (with_reducible refine (impl_in.calls a0_0 1 8 true _ A44.out).mono ?_); rintro e w' ⟨rfl, ⟨nd, rfl⟩⟩; (try first | exact ⟨rfl, _, qd1_⟩ | exact ⟨rfl, _, qd2_⟩)))
         repeat (go_quiet (first | (go_at_call 45; (with_reducible refine (impl_in.calls a0_0 1 8 true _ A44.out).mono ?_); rintro e w' ⟨rfl, ⟨nd, rfl⟩⟩; (try first | exact ⟨rfl, _, qd1_⟩ | exact ⟨rfl, _, qd2_⟩))); try go_wp2_with (first | (go_at_call 45; (with_reducible refine (impl_in.calls a0_0 1 8 true _ A44.out).mono ?_); rintro e w' ⟨rfl, ⟨nd, rfl⟩⟩; (try first | exact ⟨rfl, _, qd1_⟩ | exact ⟨rfl, _, qd2_⟩))))
         go_ret
         exact ⟨qz5_, qz10_⟩
        ·
         rw [if_neg c47] at H
         have c47b0 : (a0_2 == 0) = false := by simpa using c47
         (try (have c47b1 : decide (a0_2 = 0) = false := by simpa using c47))
         (try (have c47b2 : (a0_2 == 0) = false := by simpa using c47))
         (try (have c47b3 : ¬ (a0_2 = 0) := by simpa using c47))
         clear c47
         obtain rfl := Option.some.inj H
         have hcz49_0 : wc.cell? ⟨gb101, 0, none⟩ = some (.int .i64 a0_0) := (blk_cell BK101.out 0).trans rfl
         have hcz49_1 : wc.cell? ⟨gb101, 1, none⟩ = some (.int .i64 a0_1) := (blk_cell BK101.out 1).trans rfl
         have hcz49_2 : wc.cell? ⟨gb101, 2, none⟩ = some (.int .i64 a0_2) := (blk_cell BK101.out 2).trans rfl
         have hcz49_3 : wc.cell? ⟨gb101, 3, none⟩ = some (.int .i64 a0_3) := (blk_cell BK101.out 3).trans rfl
         have hfz49_0 := blk_frozen BK101.out 0
         have hfz49_1 := blk_frozen BK101.out 1
         have hfz49_2 := blk_frozen BK101.out 2
         have hfz49_3 := blk_frozen BK101.out 3
         go_wp2_with (first | (go_at_call 45; (with_reducible refine (impl_in.calls a0_0 1 8 true _ A44.out).mono ?_); rintro e w' ⟨rfl, ⟨nd, rfl⟩⟩; (try first | exact ⟨rfl, _, qd1_⟩ | exact ⟨rfl, _, qd2_⟩)))
         repeat (go_quiet (first | (go_at_call 45; (with_reducible refine (impl_in.calls a0_0 1 8 true _ A44.out).mono ?_); rintro e w' ⟨rfl, ⟨nd, rfl⟩⟩; (try first | exact ⟨rfl, _, qd1_⟩ | exact ⟨rfl, _, qd2_⟩))); try go_wp2_with (first | (go_at_call 45; (with_reducible refine (impl_in.calls a0_0 1 8 true _ A44.out).mono ?_); rintro e w' ⟨rfl, ⟨nd, rfl⟩⟩; (try first | exact ⟨rfl, _, qd1_⟩ | exact ⟨rfl, _, qd2_⟩))))
         go_ret
         exact ⟨qz5_, qz10_⟩
       ·
        rw [if_neg c46] at H
        have c46b0 : (a0_1 == 0) = false := by simpa using c46
        (try (have c46b1 : decide (a0_1 = 0) = false := by simpa using c46))
        (try (have c46b2 : (a0_1 == 0) = false := by simpa using c46))
        (try (have c46b3 : ¬ (a0_1 = 0) := by simpa using c46))
        clear c46
        obtain rfl := Option.some.inj H
        have hcz50_0 : wc.cell? ⟨gb101, 0, none⟩ = some (.int .i64 a0_0) := (blk_cell BK101.out 0).trans rfl
        have hcz50_1 : wc.cell? ⟨gb101, 1, none⟩ = some (.int .i64 a0_1) := (blk_cell BK101.out 1).trans rfl
        have hcz50_2 : wc.cell? ⟨gb101, 2, none⟩ = some (.int .i64 a0_2) := (blk_cell BK101.out 2).trans rfl
        have hcz50_3 : wc.cell? ⟨gb101, 3, none⟩ = some (.int .i64 a0_3) := (blk_cell BK101.out 3).trans rfl
        have hfz50_0 := blk_frozen BK101.out 0
        have hfz50_1 := blk_frozen BK101.out 1
        have hfz50_2 := blk_frozen BK101.out 2
        have hfz50_3 := blk_frozen BK101.out 3
        go_wp2_with (first | (go_at_call 45; (with_reducible refine (impl_in.calls a0_0 1 8 true _ A44.out).mono ?_); rintro e w' ⟨rfl, ⟨nd, rfl⟩⟩; (try first | exact ⟨rfl, _, qd1_⟩ | exact ⟨rfl, _, qd2_⟩)))
        repeat (go_quiet (first | (go_at_call 45; (with_reducible refine (impl_in.calls a0_0 1 8 true _ A44.out).mono ?_); rintro e w' ⟨rfl, ⟨nd, rfl⟩⟩; (try first | exact ⟨rfl, _, qd1_⟩ | exact ⟨rfl, _, qd2_⟩))); try go_wp2_with (first | (go_at_call 45; (with_reducible refine (impl_in.calls a0_0 1 8 true _ A44.out).mono ?_); rintro e w' ⟨rfl, ⟨nd, rfl⟩⟩; (try first | exact ⟨rfl, _, qd1_⟩ | exact ⟨rfl, _, qd2_⟩))))
        go_ret
        exact ⟨qz5_, qz10_⟩
      ·
       replace c45 := Bool.eq_false_iff.mpr c45
       subst c45
       have H1 : (some false) = some r := by rw [if_neg (show ¬ (false = true) by decide)] at H; exact H
       clear H
       have H := H1
       clear H1
       obtain rfl := Option.some.inj H
       have hcz51_0 : wc.cell? ⟨gb101, 0, none⟩ = some (.int .i64 a0_0) := (blk_cell BK101.out 0).trans rfl
       have hcz51_1 : wc.cell? ⟨gb101, 1, none⟩ = some (.int .i64 a0_1) := (blk_cell BK101.out 1).trans rfl
       have hcz51_2 : wc.cell? ⟨gb101, 2, none⟩ = some (.int .i64 a0_2) := (blk_cell BK101.out 2).trans rfl
       have hcz51_3 : wc.cell? ⟨gb101, 3, none⟩ = some (.int .i64 a0_3) := (blk_cell BK101.out 3).trans rfl
       have hfz51_0 := blk_frozen BK101.out 0
       have hfz51_1 := blk_frozen BK101.out 1
       have hfz51_2 := blk_frozen BK101.out 2
       have hfz51_3 := blk_frozen BK101.out 3
       go_wp2_with (first | (go_at_call 45; (with_reducible refine (impl_in.calls a0_0 1 8 false _ A44.out).mono ?_); rintro e w' ⟨rfl, ⟨nd, rfl⟩⟩; (try first | exact ⟨rfl, _, qd1_⟩ | exact ⟨rfl, _, qd2_⟩)))
       repeat (go_quiet (first | (go_at_call 45; (with_reducible refine (impl_in.calls a0_0 1 8 false _ A44.out).mono ?_); rintro e w' ⟨rfl, ⟨nd, rfl⟩⟩; (try first | exact ⟨rfl, _, qd1_⟩ | exact ⟨rfl, _, qd2_⟩))); try go_wp2_with (first | (go_at_call 45; (with_reducible refine (impl_in.calls a0_0 1 8 false _ A44.out).mono ?_); rintro e w' ⟨rfl, ⟨nd, rfl⟩⟩; (try first | exact ⟨rfl, _, qd1_⟩ | exact ⟨rfl, _, qd2_⟩))))
       go_ret
       exact ⟨qz5_, qz10_⟩


/-! ### impl_CircuitOK: function 96 -/
def impl_CircuitOK.l0 : Nat → List (S115) → Int → Int → List (S115) → Option (Bool)
 | 0, _, _, _, _ => none
 | k + 1, x11, x12, x13, x102000 => if x13 < x12 then (if 0 ≤ x13 then (if x13 < (x11.length : Int) then ((impl_isGate.f k ((rd_T115 x11 x13).f0) ((rd_T115 x11 x13).f1) ((rd_T115 x11 x13).f2) ((rd_T115 x11 x13).f3) x13).bind fun t105 => (if t105 = true then (impl_CircuitOK.l0 k x11 x12 (wrap64 (x13 + 1)) x102000) else (some false))) else (none)) else (none)) else ((impl_Circuit_countOf.f k x102000 2).bind fun t106 => (some (decide (t106 ≤ 7))))
def impl_CircuitOK.f (k : Nat) (l0_0 : List (S115)) : Option (Bool) := (impl_in.f (l0_0.length : Int) 1 15).bind fun t102 => (if t102 = true then (impl_CircuitOK.l0 k l0_0 (l0_0.length : Int) 0 l0_0) else (some false))
theorem impl_CircuitOK.mono_l : ∀ k, (∀ y0 y1 y2 y3, LeO (impl_CircuitOK.l0 k y0 y1 y2 y3) (impl_CircuitOK.l0 (k + 1) y0 y1 y2 y3))
 | 0 => fun _ _ _ _ r h => by simp [impl_CircuitOK.l0] at h
 | k + 1 => by
  have ih0 := impl_CircuitOK.mono_l k
  ·
   intro y0 y1 y2 y3
   unfold impl_CircuitOK.l0
   repeat' first
   | (with_reducible exact ih0 _ _ _ _)
   | (with_reducible exact impl_Circuit_countOf.mono _ _ _)
   | (with_reducible exact impl_isGate.mono _ _ _ _ _ _)
   | (with_reducible exact LeO.refl _)
   | (with_reducible exact LeO.none _)
   | (with_reducible refine LeO.ite ?_ ?_)
   | (with_reducible refine LeO.bind ?_ (fun _ => ?_))
   | exact ih0 _ _ _ _
   | exact impl_Circuit_countOf.mono _ _ _
   | exact impl_isGate.mono _ _ _ _ _ _
   | exact LeO.none _
   | refine LeO.ite ?_ ?_
   | refine LeO.bind ?_ (fun _ => ?_)
theorem impl_CircuitOK.mono : ∀ a0 k, LeO (impl_CircuitOK.f k a0) (impl_CircuitOK.f (k + 1) a0) := by
 intro a0 k
 have ih0 := impl_CircuitOK.mono_l k
 unfold impl_CircuitOK.f
 repeat' first
   | (with_reducible exact ih0 _ _ _ _)
   | (with_reducible exact impl_Circuit_countOf.mono _ _ _)
   | (with_reducible exact impl_isGate.mono _ _ _ _ _ _)
   | (with_reducible exact LeO.refl _)
   | (with_reducible exact LeO.none _)
   | (with_reducible refine LeO.ite ?_ ?_)
   | (with_reducible refine LeO.bind ?_ (fun _ => ?_))
   | exact ih0 _ _ _ _
   | exact impl_Circuit_countOf.mono _ _ _
   | exact impl_isGate.mono _ _ _ _ _ _
   | exact LeO.none _
   | refine LeO.ite ?_ ?_
   | refine LeO.bind ?_ (fun _ => ?_)
set_option maxHeartbeats 8000000 in
set_option maxRecDepth 100000 in
theorem impl_CircuitOK.calls (k : Nat) (A0_0 : Option Addr) (c0_0 : Nat) (l0_0 : List (S115)) (r : Bool) (w : World) (hr0_0 : Kd.C k115 w A0_0 l0_0.length l0_0) (hc0_0 : l0_0.length ≤ c0_0) (h : impl_CircuitOK.f k l0_0 = some r) :
  Calls Try.prog 96 #[.agg #[.slice A0_0 l0_0.length c0_0]] w fun e w' => e = .returned (.bool r) ∧ Below w.heap.size w w' := by
 have hu63 := Try.underlying63
 have hu115 := Try.underlying115
 have HR0_0 := am_ hr0_0
 have HC0_0 := am_ hc0_0
 clear hr0_0 hc0_0
 have HB := am_ (Below.refl w.heap.size w)
 have H : ((impl_in.f (l0_0.length : Int) 1 15).bind fun t102 => (if t102 = true then (impl_CircuitOK.l0 k l0_0 (l0_0.length : Int) 0 l0_0) else (some false))) = some r := h
 clear h
 replace H := Option.bind_eq_some_iff.mp H
 obtain ⟨t102, A20, H⟩ := H
 replace H : (if t102 = true then (impl_CircuitOK.l0 k l0_0 (l0_0.length : Int) 0 l0_0) else (some false)) = some r := H
 have A2 := am_ A20
 clear A20
 by_cases c3 : t102 = true
 ·
  subst c3
  have H1 : (impl_CircuitOK.l0 k l0_0 (l0_0.length : Int) 0 l0_0) = some r := by rw [if_pos rfl] at H; exact H
  clear H
  have H := H1
  clear H1
  have H' := am_ H
  clear H
  go_enter Try.func96, Try.ntmps96
  go_wp2_with (first | ((with_reducible refine gate_dst (N := 1) rfl ?_); refine box_event ?hg (N := 1) ?hd (cs := #[.slice A0_0 l0_0.length c0_0]) (t := 63) ?hr ?_; (case hd => rfl); (case hg => rfl); (case hr => first | (go_simp; done) | (go_simp; rfl)); intro gb101 hg w4 hbox hb; have n0_ := am_ (below_step qz1_ hb); have n1_ := am_ (hbox); have n2_ := am_ ((by rw [hg]; exact (below_size qz1_) : w.heap.size ≤ gb101)); have n3_ := am_ ((by rw [hg]; exact (below_size qz1_) : w.heap.size ≤ gb101)); clear HB; have HB := n0_; have BK101 := n1_; have GW101 := n2_; have GE101 := n3_; clear n0_ n1_ n2_ n3_; clear hb hbox hg; have hcz5_0 : w4.cell? ⟨gb101, 0, none⟩ = some (.slice A0_0 l0_0.length c0_0) := (blk_cell BK101.out 0).trans rfl; have hfz5_0 := blk_frozen BK101.out 0) | ((with_reducible refine gate_callee (f := 45) rfl ?_); refine goesL_ (some 8) rfl rfl Try.func45 (by kernel_rfl) rfl #[.int .i64 (l0_0.length : Int), .int .i64 1, .int .i64 15] rfl qz9_ ?_; (with_reducible refine (impl_in.calls (l0_0.length : Int) 1 15 true _ A2.out).mono ?_); rintro e w' ⟨rfl, ⟨nd, rfl⟩⟩; refine ⟨_, rfl, ?_⟩))
  go_loopg [13] k (fun kq v13 w' => ∃ (x13_1 : Int), v13 = .int .i64 x13_1 ∧ Aside0 (impl_CircuitOK.l0 kq l0_0 (l0_0.length : Int) x13_1 l0_0 = some r) ∧ Aside0 (kq ≤ k) ∧ Aside0 (w'.heap[gb101]? = some (.cells #[(.slice A0_0 l0_0.length c0_0)] 63 (0, 0))) ∧ Aside0 (Below w.heap.size w w'))
  case atStart => exact ⟨(0), qz2_, H', ⟨Nat.le_refl _⟩, ⟨qz11_⟩, ⟨qz10_⟩⟩
  case round =>
   clear H'
   try clear p2
   try clear c3
   try clear c4
   try clear hcz5_0
   try clear hfz5_0
   obtain ⟨x13_1, rfl, HA, HK1, BK101, HB⟩ := hrel
   cases gk with
   | zero => exact absurd HA.out (by simp [impl_CircuitOK.l0])
   | succ k1 =>
    have H := HA.out
    clear HA
    simp only [impl_CircuitOK.l0] at H
    by_cases c6 : x13_1 < (l0_0.length : Int)
    ·
     rw [if_pos c6] at H
     have c6b0 : decide (x13_1 < (l0_0.length : Int)) = true := decide_eq_true c6
     clear c6
     by_cases c7 : 0 ≤ x13_1
     ·
      rw [if_pos c7] at H
      have c7b0 : decide (0 ≤ x13_1) = true := decide_eq_true c7
      clear c7
      by_cases c8 : x13_1 < (l0_0.length : Int)
      ·
       rw [if_pos c8] at H
       have c8b0 : decide (x13_1 < (l0_0.length : Int)) = true := decide_eq_true c8
       clear c8
       replace H := Option.bind_eq_some_iff.mp H
       obtain ⟨t105, A90, H⟩ := H
       replace H : (if t105 = true then (impl_CircuitOK.l0 k1 l0_0 (l0_0.length : Int) (wrap64 (x13_1 + 1)) l0_0) else (some false)) = some r := H
       have A9 := am_ A90
       clear A90
       by_cases c10 : t105 = true
       ·
        subst c10
        have H1 : (impl_CircuitOK.l0 k1 l0_0 (l0_0.length : Int) (wrap64 (x13_1 + 1)) l0_0) = some r := by rw [if_pos rfl] at H; exact H
        clear H
        have H := H1
        clear H1
        have H' := am_ H
        clear H
        have p103 : 0 ≤ (x13_1 : Int) := of_decide_eq_true qz0_
        have q103 : x13_1 < (l0_0.length : Int) := of_decide_eq_true qz0_
        obtain ⟨ad103, e103, hx103_0, hx103_1, hx103_2, hx103_3⟩ := at_T115 HR0_0.out x13_1 p103 q103
        cases e103
        replace hx103_0 := (HB.out.cell (World.block_lt_of_cell? w _ hx103_0)).trans hx103_0
        replace hx103_1 := (HB.out.cell (World.block_lt_of_cell? w _ hx103_1)).trans hx103_1
        replace hx103_2 := (HB.out.cell (World.block_lt_of_cell? w _ hx103_2)).trans hx103_2
        replace hx103_3 := (HB.out.cell (World.block_lt_of_cell? w _ hx103_3)).trans hx103_3
        replace p103 := eq_true p103
        replace q103 := eq_true q103
        go_wp2_with (first | ((with_reducible refine gate_dst (N := 4) rfl ?_); refine box_event ?hg (N := 4) ?hd (cs := #[.int .i64 0, .int .i64 0, .int .i64 0, .int .i64 0]) (t := 115) ?hr ?_; (case hd => rfl); (case hg => rfl); (case hr => first | (go_simp; done) | (go_simp; rfl)); intro gb104 hg w11 hbox hb; have n0_ := am_ (blk_below (g := gb101) (o := .cells #[.slice (some ad103) l0_0.length c0_0] 63 (0, 0)) qz11_ hb); have n1_ := am_ (below_step qz10_ hb); have n2_ := am_ (hbox); have n3_ := am_ ((by rw [hg]; exact (below_size qz10_) : w.heap.size ≤ gb104)); have n4_ := am_ ((by rw [hg]; exact (below_size qz10_) : w.heap.size ≤ gb104)); have n5_ := am_ ((by rw [hg]; exact Nat.ne_of_lt (blk_lt (g := gb101) (o := .cells #[.slice (some ad103) l0_0.length c0_0] 63 (0, 0)) qz11_) : gb101 ≠ gb104)); have n6_ := am_ ((by rw [hg]; exact Nat.ne_of_gt (blk_lt (g := gb101) (o := .cells #[.slice (some ad103) l0_0.length c0_0] 63 (0, 0)) qz11_) : gb104 ≠ gb101)); clear BK101; clear HB; have BK101 := n0_; have HB := n1_; have BK104 := n2_; have GW104 := n3_; have GE104 := n4_; have NB101_104 := n5_; have NB104_101 := n6_; clear n0_ n1_ n2_ n3_ n4_ n5_ n6_; clear hb hbox hg; have hnb12 := NB104_101.out; have hnc12 := NB101_104.out; have hcz13_0 : w11.cell? ⟨gb104, 0, none⟩ = some (.int .i64 0) := (blk_cell BK104.out 0).trans rfl; have hcz13_1 : w11.cell? ⟨gb104, 1, none⟩ = some (.int .i64 0) := (blk_cell BK104.out 1).trans rfl; have hcz13_2 : w11.cell? ⟨gb104, 2, none⟩ = some (.int .i64 0) := (blk_cell BK104.out 2).trans rfl; have hcz13_3 : w11.cell? ⟨gb104, 3, none⟩ = some (.int .i64 0) := (blk_cell BK104.out 3).trans rfl; have hfz13_0 := blk_frozen BK104.out 0; have hfz13_1 := blk_frozen BK104.out 1; have hfz13_2 := blk_frozen BK104.out 2; have hfz13_3 := blk_frozen BK104.out 3) | ((with_reducible refine gate_callee (f := 107) rfl ?_); refine goesL_ (some 20) rfl rfl Try.func107 (by kernel_rfl) rfl #[.agg #[.int .i64 ((rd_T115 l0_0 x13_1).f0), .int .i64 ((rd_T115 l0_0 x13_1).f1), .int .i64 ((rd_T115 l0_0 x13_1).f2), .int .i64 ((rd_T115 l0_0 x13_1).f3)], .int .i64 x13_1] rfl qz9_ ?_; (with_reducible refine (impl_isGate.calls k1 ((rd_T115 l0_0 x13_1).f0) ((rd_T115 l0_0 x13_1).f1) ((rd_T115 l0_0 x13_1).f2) ((rd_T115 l0_0 x13_1).f3) x13_1 true _ A9.out).mono ?_); rintro e w14 ⟨rfl, hb⟩; refine ⟨_, rfl, ?_⟩; have n0_ := am_ (blk_below (g := gb101) (o := .cells #[.slice (some ad103) l0_0.length c0_0] 63 (0, 0)) qz56_ hb); have n1_ := am_ (blk_below (g := gb104) (o := .cells #[.int .i64 ((rd_T115 l0_0 x13_1).f0), .int .i64 ((rd_T115 l0_0 x13_1).f1), .int .i64 ((rd_T115 l0_0 x13_1).f2), .int .i64 ((rd_T115 l0_0 x13_1).f3)] 115 (0, 0)) qz57_ hb); have n2_ := am_ (below_step qz58_ hb); clear BK101; clear BK104; clear HB; have BK101 := n0_; have BK104 := n1_; have HB := n2_; clear n0_ n1_ n2_; (try clear hb); (try clear hb2); (try clear hk); (try clear hi)))
        go_roundg k1
        case measure => have := HK1.out; omega
        case rel => exact ⟨(wrap64 (x13_1 + 1)), qz2_, H', ⟨qz3_⟩, ⟨qz11_⟩, ⟨qz58_⟩⟩
       ·
        replace c10 := Bool.eq_false_iff.mpr c10
        subst c10
        have H1 : (some false) = some r := by rw [if_neg (show ¬ (false = true) by decide)] at H; exact H
        clear H
        have H := H1
        clear H1
        obtain rfl := Option.some.inj H
        have p103 : 0 ≤ (x13_1 : Int) := of_decide_eq_true qz0_
        have q103 : x13_1 < (l0_0.length : Int) := of_decide_eq_true qz0_
        obtain ⟨ad103, e103, hx103_0, hx103_1, hx103_2, hx103_3⟩ := at_T115 HR0_0.out x13_1 p103 q103
        cases e103
        replace hx103_0 := (HB.out.cell (World.block_lt_of_cell? w _ hx103_0)).trans hx103_0
        replace hx103_1 := (HB.out.cell (World.block_lt_of_cell? w _ hx103_1)).trans hx103_1
        replace hx103_2 := (HB.out.cell (World.block_lt_of_cell? w _ hx103_2)).trans hx103_2
        replace hx103_3 := (HB.out.cell (World.block_lt_of_cell? w _ hx103_3)).trans hx103_3
        replace p103 := eq_true p103
        replace q103 := eq_true q103
        go_wp2_with (first | ((with_reducible refine gate_dst (N := 4) rfl ?_); refine box_event ?hg (N := 4) ?hd (cs := #[.int .i64 0, .int .i64 0, .int .i64 0, .int .i64 0]) (t := 115) ?hr ?_; (case hd => rfl); (case hg => rfl); (case hr => first | (go_simp; done) | (go_simp; rfl)); intro gb104 hg w15 hbox hb; have n0_ := am_ (blk_below (g := gb101) (o := .cells #[.slice (some ad103) l0_0.length c0_0] 63 (0, 0)) qz11_ hb); have n1_ := am_ (below_step qz10_ hb); have n2_ := am_ (hbox); have n3_ := am_ ((by rw [hg]; exact (below_size qz10_) : w.heap.size ≤ gb104)); have n4_ := am_ ((by rw [hg]; exact (below_size qz10_) : w.heap.size ≤ gb104)); have n5_ := am_ ((by rw [hg]; exact Nat.ne_of_lt (blk_lt (g := gb101) (o := .cells #[.slice (some ad103) l0_0.length c0_0] 63 (0, 0)) qz11_) : gb101 ≠ gb104)); have n6_ := am_ ((by rw [hg]; exact Nat.ne_of_gt (blk_lt (g := gb101) (o := .cells #[.slice (some ad103) l0_0.length c0_0] 63 (0, 0)) qz11_) : gb104 ≠ gb101)); clear BK101; clear HB; have BK101 := n0_; have HB := n1_; have BK104 := n2_; have GW104 := n3_; have GE104 := n4_; have NB101_104 := n5_; have NB104_101 := n6_; clear n0_ n1_ n2_ n3_ n4_ n5_ n6_; clear hb hbox hg; have hnb16 := NB104_101.out; have hnc16 := NB101_104.out; have hcz17_0 : w15.cell? ⟨gb104, 0, none⟩ = some (.int .i64 0) := (blk_cell BK104.out 0).trans rfl; have hcz17_1 : w15.cell? ⟨gb104, 1, none⟩ = some (.int .i64 0) := (blk_cell BK104.out 1).trans rfl; have hcz17_2 : w15.cell? ⟨gb104, 2, none⟩ = some (.int .i64 0) := (blk_cell BK104.out 2).trans rfl; have hcz17_3 : w15.cell? ⟨gb104, 3, none⟩ = some (.int .i64 0) := (blk_cell BK104.out 3).trans rfl; have hfz17_0 := blk_frozen BK104.out 0; have hfz17_1 := blk_frozen BK104.out 1; have hfz17_2 := blk_frozen BK104.out 2; have hfz17_3 := blk_frozen BK104.out 3) | ((with_reducible refine gate_callee (f := 107) rfl ?_); refine goesL_ (some 20) rfl rfl Try.func107 (by kernel_rfl) rfl #[.agg #[.int .i64 ((rd_T115 l0_0 x13_1).f0), .int .i64 ((rd_T115 l0_0 x13_1).f1), .int .i64 ((rd_T115 l0_0 x13_1).f2), .int .i64 ((rd_T115 l0_0 x13_1).f3)], .int .i64 x13_1] rfl qz9_ ?_; (with_reducible refine (impl_isGate.calls k1 ((rd_T115 l0_0 x13_1).f0) ((rd_T115 l0_0 x13_1).f1) ((rd_T115 l0_0 x13_1).f2) ((rd_T115 l0_0 x13_1).f3) x13_1 false _ A9.out).mono ?_); rintro e w18 ⟨rfl, hb⟩; refine ⟨_, rfl, ?_⟩; have n0_ := am_ (blk_below (g := gb101) (o := .cells #[.slice (some ad103) l0_0.length c0_0] 63 (0, 0)) qz56_ hb); have n1_ := am_ (blk_below (g := gb104) (o := .cells #[.int .i64 ((rd_T115 l0_0 x13_1).f0), .int .i64 ((rd_T115 l0_0 x13_1).f1), .int .i64 ((rd_T115 l0_0 x13_1).f2), .int .i64 ((rd_T115 l0_0 x13_1).f3)] 115 (0, 0)) qz57_ hb); have n2_ := am_ (below_step qz58_ hb); clear BK101; clear BK104; clear HB; have BK101 := n0_; have BK104 := n1_; have HB := n2_; clear n0_ n1_ n2_; (try clear hb); (try clear hb2); (try clear hk); (try clear hi)))
        go_ret
        exact ⟨qz5_, qz58_⟩
      ·
       rw [if_neg c8] at H
       exact absurd H (by simp)
     ·
      rw [if_neg c7] at H
      exact absurd H (by simp)
    ·
     rw [if_neg c6] at H
     have c6b0 : decide (x13_1 < (l0_0.length : Int)) = false := decide_eq_false c6
     clear c6
     replace H := Option.bind_eq_some_iff.mp H
     obtain ⟨t106, A190, H⟩ := H
     replace H : (some (decide (t106 ≤ 7))) = some r := H
     have A19 := am_ A190
     clear A190
     obtain rfl := Option.some.inj H
     have hcz20_0 : wr.cell? ⟨gb101, 0, none⟩ = some (.slice A0_0 l0_0.length c0_0) := (blk_cell BK101.out 0).trans rfl
     have hfz20_0 := blk_frozen BK101.out 0
     go_wp2_with (first | ((with_reducible refine gate_callee (f := 97) rfl ?_); refine goesL_ (some 24) rfl rfl Try.func97 (by kernel_rfl) rfl #[.agg #[.slice A0_0 l0_0.length c0_0], .int .i64 2] rfl qz9_ ?_; (with_reducible refine (impl_Circuit_countOf.calls k1 _ _ l0_0 2 t106 _ ?side1 ?side2 A19.out).mono ?_); (case side1 => exact qc_ (Kd.C_below HR0_0.out HB.out)); (case side2 => exact HC0_0.out); rintro e w21 ⟨rfl, hb⟩; refine ⟨_, rfl, ?_⟩; have n0_ := am_ (blk_below (g := gb101) (o := .cells #[.slice A0_0 l0_0.length c0_0] 63 (0, 0)) qz11_ hb); have n1_ := am_ (below_step qz10_ hb); clear BK101; clear HB; have BK101 := n0_; have HB := n1_; clear n0_ n1_; (try clear hb); (try clear hb2); (try clear hk); (try clear hi)))
     go_ret
     exact ⟨qz5_, qz10_⟩
 ·
  replace c3 := Bool.eq_false_iff.mpr c3
  subst c3
  have H1 : (some false) = some r := by rw [if_neg (show ¬ (false = true) by decide)] at H; exact H
  clear H
  have H := H1
  clear H1
  obtain rfl := Option.some.inj H
  go_enter Try.func96, Try.ntmps96
  go_wp2_with (first | ((with_reducible refine gate_dst (N := 1) rfl ?_); refine box_event ?hg (N := 1) ?hd (cs := #[.slice A0_0 l0_0.length c0_0]) (t := 63) ?hr ?_; (case hd => rfl); (case hg => rfl); (case hr => first | (go_simp; done) | (go_simp; rfl)); intro gb101 hg w22 hbox hb; have n0_ := am_ (below_step qz1_ hb); have n1_ := am_ (hbox); have n2_ := am_ ((by rw [hg]; exact (below_size qz1_) : w.heap.size ≤ gb101)); have n3_ := am_ ((by rw [hg]; exact (below_size qz1_) : w.heap.size ≤ gb101)); clear HB; have HB := n0_; have BK101 := n1_; have GW101 := n2_; have GE101 := n3_; clear n0_ n1_ n2_ n3_; clear hb hbox hg; have hcz23_0 : w22.cell? ⟨gb101, 0, none⟩ = some (.slice A0_0 l0_0.length c0_0) := (blk_cell BK101.out 0).trans rfl; have hfz23_0 := blk_frozen BK101.out 0) | ((with_reducible refine gate_callee (f := 45) rfl ?_); refine goesL_ (some 8) rfl rfl Try.func45 (by kernel_rfl) rfl #[.int .i64 (l0_0.length : Int), .int .i64 1, .int .i64 15] rfl qz9_ ?_; (with_reducible refine (impl_in.calls (l0_0.length : Int) 1 15 false _ A2.out).mono ?_); rintro e w' ⟨rfl, ⟨nd, rfl⟩⟩; refine ⟨_, rfl, ?_⟩))
  go_ret
  exact ⟨qz5_, qz10_⟩

end Go.Proofs.Ytekijbcblajjbaa.PT
end
