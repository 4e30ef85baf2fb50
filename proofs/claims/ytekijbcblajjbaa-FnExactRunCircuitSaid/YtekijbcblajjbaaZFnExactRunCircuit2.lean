/- Part 2 of the proof of FnExactRunCircuit: what functions compute, shown step by step, and what that says (the claim's last text states the law). -/
import Derived.Test.YtekijbcblajjbaaProg
import Derived.Test.YtekijbcblajjbaaVMore
import Derived.Test.YtekijbcblajjbaaVWords
import Derived.Test.YtekijbcblajjbaaVLast
import Derived.Test.YtekijbcblajjbaaVTab
import Derived.Test.YtekijbcblajjbaaVQPut
import Derived.Test.YtekijbcblajjbaaVApart
import Derived.Test.YtekijbcblajjbaaVArr
import Derived.Test.YtekijbcblajjbaaVZeros
import Derived.Test.YtekijbcblajjbaaVFoot
import Derived.Test.YtekijbcblajjbaaVKept
import Derived.Test.YtekijbcblajjbaaVShare
import Derived.Test.YtekijbcblajjbaaVN
import Derived.Test.YtekijbcblajjbaaVFootNe
import Derived.Test.YtekijbcblajjbaaVAt
import Derived.Test.YtekijbcblajjbaaVRepsOne
import Derived.Test.YtekijbcblajjbaaVGuard
import Derived.Test.YtekijbcblajjbaaVNEv
import Derived.Test.YtekijbcblajjbaaRows
import Derived.JoinedOf
import Derived.WalkKit
import Derived.ProofKit
import Derived.Below
import Derived.Deep.Draws
import Derived.Deep.AppendLies
import Derived.Maps.AppendAt
import Derived.OwnWalk
import Derived.Laws.BytesArg
import Derived.Laws.MakeOwn
import Derived.Laws.OwnMore
import Derived.Deep.OwnRows
import Derived.Tactics
import Derived.Lib.ConvBytes
import Derived.Laws.Slices
import Derived.KernelRfl
import Derived.RowKit3
import Derived.Deep.LoopGhost
import Derived.Deep.QuietTactic
import Derived.BigQuiet
import Derived.WideLaws
import Derived.Deep.DeepCutAuto
import Derived.Deep.CutBlock
import Derived.Deep.RegionHeld3
import Derived.Laws.Rows
import Derived.Lib.AppendStr
import Derived.ArgAppend
import Derived.Laws.IdiomCopy
import Derived.OrdersHeld
import Derived.Laws.BitsLemmas
import Derived.RowKit
import Derived.OpenShut
import Derived.ShutString
import Derived.ChangeOld
import Derived.SizedLaws
import Derived.Deep.Slices
import Derived.ChangeArms
import Derived.Test.YtekijbcblajjbaaZFnExactRunCircuit1
section
namespace Go.Proofs.Ytekijbcblajjbaa.PT
open Go.RowKit Go.Proofs.YtekijbcblajjbaaW.PrintWords Go.Proofs.YtekijbcblajjbaaW.PrintLast Go.Proofs.YtekijbcblajjbaaW.PrintMore
attribute [local go_sem] max2_int min2_int max_two min_two max_three min_three max_four min_four   -- for this text's walks alone
set_option linter.unusedVariables false
set_option linter.unusedSimpArgs false

/-! ### spec_l11Fits: function 71 -/
def spec_l11Fits.l0 : Nat → List Int → Int → List (S115) → Option (Bool)
  | 0, _, _, _ => none
  | k + 1, x1, x5, x102000 => if x5 < (x102000.length : Int) then (if 0 ≤ x5 then (if ((rd_T115 x102000 x5).f0) = 7 then (if 0 ≤ ((rd_T115 x102000 x5).f1) then (if ((rd_T115 x102000 x5).f1) < (x1.length : Int) then (if 0 ≤ ((rd_T115 x102000 x5).f2) then (if ((rd_T115 x102000 x5).f2) < (x1.length : Int) then (if (rd x1 ((rd_T115 x102000 x5).f1)) = (rd x1 ((rd_T115 x102000 x5).f2)) then (if ((rd_T115 x102000 x5).f0) = 8 then (if (rd x1 ((rd_T115 x102000 x5).f1)) > 1 then (some false) else (spec_l11Fits.l0 k x1 (wrap64 (x5 + 1)) x102000)) else (spec_l11Fits.l0 k x1 (wrap64 (x5 + 1)) x102000)) else (some false)) else (none)) else (none)) else (none)) else (none)) else (if ((rd_T115 x102000 x5).f0) = 8 then (if 0 ≤ ((rd_T115 x102000 x5).f1) then (if ((rd_T115 x102000 x5).f1) < (x1.length : Int) then (if (rd x1 ((rd_T115 x102000 x5).f1)) > 1 then (some false) else (spec_l11Fits.l0 k x1 (wrap64 (x5 + 1)) x102000)) else (none)) else (none)) else (spec_l11Fits.l0 k x1 (wrap64 (x5 + 1)) x102000))) else (none)) else (some true)
def spec_l11Fits.f (k : Nat) (l0_0 : List (S115)) (l1 : List Int) : Option (Bool) := spec_l11Fits.l0 k l1 0 l0_0
theorem spec_l11Fits.mono_l : ∀ k, (∀ y0 y1 y2, LeO (spec_l11Fits.l0 k y0 y1 y2) (spec_l11Fits.l0 (k + 1) y0 y1 y2))
  | 0 => fun _ _ _ r h => by simp [spec_l11Fits.l0] at h
  | k + 1 => by
    have ih0 := spec_l11Fits.mono_l k
    · intro y0 y1 y2
      unfold spec_l11Fits.l0
      repeat' first
      | (with_reducible exact ih0 _ _ _)
      | (with_reducible exact LeO.refl _)
      | (with_reducible exact LeO.none _)
      | (with_reducible refine LeO.ite ?_ ?_)
      | (with_reducible refine LeO.bind ?_ (fun _ => ?_))
      | exact ih0 _ _ _
      | exact LeO.none _
      | refine LeO.ite ?_ ?_
      | refine LeO.bind ?_ (fun _ => ?_)
theorem spec_l11Fits.mono : ∀ a0 a1 k, LeO (spec_l11Fits.f k a0 a1) (spec_l11Fits.f (k + 1) a0 a1) := by
  intro a0 a1 k
  have ih0 := spec_l11Fits.mono_l k
  unfold spec_l11Fits.f
  repeat' first
      | (with_reducible exact ih0 _ _ _)
      | (with_reducible exact LeO.refl _)
      | (with_reducible exact LeO.none _)
      | (with_reducible refine LeO.ite ?_ ?_)
      | (with_reducible refine LeO.bind ?_ (fun _ => ?_))
      | exact ih0 _ _ _
      | exact LeO.none _
      | refine LeO.ite ?_ ?_
      | refine LeO.bind ?_ (fun _ => ?_)
set_option maxHeartbeats 8000000 in
set_option maxRecDepth 100000 in
theorem spec_l11Fits.calls (k : Nat) (A0_0 : Option Addr) (c0_0 : Nat) (l0_0 : List (S115)) (A1 : Option Addr) (c1 : Nat) (l1 : List Int) (r : Bool) (w : World) (hr0_0 : Kd.C k115 w A0_0 l0_0.length l0_0) (hc0_0 : l0_0.length ≤ c0_0) (hr1 : Kd.C (Kd.int .i64) w A1 l1.length l1) (hc1 : l1.length ≤ c1) (h : spec_l11Fits.f k l0_0 l1 = some r) :
    Calls Try.prog 71 #[.agg #[.slice A0_0 l0_0.length c0_0], .slice A1 l1.length c1] w fun e w' => e = .returned (.bool r) ∧ Below w.heap.size w w' := by
  have hu63 := Try.underlying63
  have hu115 := Try.underlying115
  have HR0_0 := Aside0.mk hr0_0
  have HC0_0 := Aside0.mk hc0_0
  clear hr0_0 hc0_0
  have HR1 := Aside0.mk hr1
  have HC1 := Aside0.mk hc1
  clear hr1 hc1
  have HB := Aside0.mk (Below.refl w.heap.size w)
  have H : (spec_l11Fits.l0 k l1 0 l0_0) = some r := h
  clear h
  have H' := Aside0.mk H
  clear H
  go_enter Try.func71, Try.ntmps71
  go_wp2_with (first | ((with_reducible refine gate_dst (N := 2) rfl ?_); refine box_event ?hg (N := 2) ?hd (cs := #[.slice A0_0 l0_0.length c0_0]) (t := 63) ?hr ?_; (case hd => rfl); (case hg => rfl); (case hr => first | (go_simp; done) | (go_simp; rfl)); intro gb101 hg w3 hbox hb; have n0_ := Aside0.mk (below_step qz1_ hb); have n1_ := Aside0.mk (hbox); have n2_ := Aside0.mk ((by rw [hg]; exact (below_size qz1_) : w.heap.size ≤ gb101)); have n3_ := Aside0.mk ((by rw [hg]; exact (below_size qz1_) : w.heap.size ≤ gb101)); clear HB; have HB := n0_; have BK101 := n1_; have GW101 := n2_; have GE101 := n3_; clear n0_ n1_ n2_ n3_; clear hb hbox hg))
  repeat (go_quiet (first | ((with_reducible refine gate_dst (N := 2) rfl ?_); refine box_event ?hg (N := 2) ?hd (cs := #[.slice A0_0 l0_0.length c0_0]) (t := 63) ?hr ?_; (case hd => rfl); (case hg => rfl); (case hr => first | (go_simp; done) | (go_simp; rfl)); intro gb101 hg w3 hbox hb; have n0_ := Aside0.mk (below_step qz1_ hb); have n1_ := Aside0.mk (hbox); have n2_ := Aside0.mk ((by rw [hg]; exact (below_size qz1_) : w.heap.size ≤ gb101)); have n3_ := Aside0.mk ((by rw [hg]; exact (below_size qz1_) : w.heap.size ≤ gb101)); clear HB; have HB := n0_; have BK101 := n1_; have GW101 := n2_; have GE101 := n3_; clear n0_ n1_ n2_ n3_; clear hb hbox hg)); try go_wp2_with (first | ((with_reducible refine gate_dst (N := 2) rfl ?_); refine box_event ?hg (N := 2) ?hd (cs := #[.slice A0_0 l0_0.length c0_0]) (t := 63) ?hr ?_; (case hd => rfl); (case hg => rfl); (case hr => first | (go_simp; done) | (go_simp; rfl)); intro gb101 hg w3 hbox hb; have n0_ := Aside0.mk (below_step qz1_ hb); have n1_ := Aside0.mk (hbox); have n2_ := Aside0.mk ((by rw [hg]; exact (below_size qz1_) : w.heap.size ≤ gb101)); have n3_ := Aside0.mk ((by rw [hg]; exact (below_size qz1_) : w.heap.size ≤ gb101)); clear HB; have HB := n0_; have BK101 := n1_; have GW101 := n2_; have GE101 := n3_; clear n0_ n1_ n2_ n3_; clear hb hbox hg)))
  go_loopg [5] k (fun kq v5 w' => ∃ (x5_1 : Int), v5 = .int .i64 x5_1 ∧ Aside0 (spec_l11Fits.l0 kq l1 x5_1 l0_0 = some r) ∧ Aside0 (kq ≤ k) ∧ Aside0 (w'.heap[gb101]? = some (.cells #[(.slice A0_0 l0_0.length c0_0)] 63 (0, 0))) ∧ Aside0 (Below w.heap.size w w'))
  case atStart => exact ⟨(0), qz2_, H', ⟨Nat.le_refl _⟩, ⟨by (with_reducible repeat (first | refine blk_drewN ?_ _ | refine blk_drew ?_ | refine blk_alloc ?_ _)); exact BK101.out⟩, ⟨by repeat (first | (with_reducible first | exact HB.out | apply below_alloc | apply pw_below_drewN | apply below_drew1 | refine below_set ?_ GE101.out) | exact HB.out)⟩⟩
  case round =>
    clear H'
    try clear c1
    try clear p2
    obtain ⟨x5_1, rfl, HA, HK1, BK101, HB⟩ := hrel
    cases gk with
    | zero => exact absurd HA.out (by simp [spec_l11Fits.l0])
    | succ k1 =>
      have H := HA.out
      clear HA
      simp only [spec_l11Fits.l0] at H
      by_cases c4 : x5_1 < (l0_0.length : Int)
      · rw [if_pos c4] at H
        have c4b0 : decide (x5_1 < (l0_0.length : Int)) = true := decide_eq_true c4
        clear c4
        by_cases c5 : 0 ≤ x5_1
        · rw [if_pos c5] at H
          have c5b0 : decide (0 ≤ x5_1) = true := decide_eq_true c5
          clear c5
          by_cases c6 : ((rd_T115 l0_0 x5_1).f0) = 7
          · rw [if_pos c6] at H
            have c6b0 : (((rd_T115 l0_0 x5_1).f0) == 7) = true := beq_iff_eq.mpr c6
            have c6b1 : (((rd_T115 l0_0 x5_1).f0) != 7) = false := bne_eq_false_iff_eq.mpr c6
            clear c6
            by_cases c7 : 0 ≤ ((rd_T115 l0_0 x5_1).f1)
            · rw [if_pos c7] at H
              have c7b0 : decide (0 ≤ ((rd_T115 l0_0 x5_1).f1)) = true := decide_eq_true c7
              clear c7
              by_cases c8 : ((rd_T115 l0_0 x5_1).f1) < (l1.length : Int)
              · rw [if_pos c8] at H
                have c8b0 : decide (((rd_T115 l0_0 x5_1).f1) < (l1.length : Int)) = true := decide_eq_true c8
                clear c8
                by_cases c9 : 0 ≤ ((rd_T115 l0_0 x5_1).f2)
                · rw [if_pos c9] at H
                  have c9b0 : decide (0 ≤ ((rd_T115 l0_0 x5_1).f2)) = true := decide_eq_true c9
                  clear c9
                  by_cases c10 : ((rd_T115 l0_0 x5_1).f2) < (l1.length : Int)
                  · rw [if_pos c10] at H
                    have c10b0 : decide (((rd_T115 l0_0 x5_1).f2) < (l1.length : Int)) = true := decide_eq_true c10
                    clear c10
                    by_cases c11 : (rd l1 ((rd_T115 l0_0 x5_1).f1)) = (rd l1 ((rd_T115 l0_0 x5_1).f2))
                    · rw [if_pos c11] at H
                      have c11b0 : ((rd l1 ((rd_T115 l0_0 x5_1).f1)) == (rd l1 ((rd_T115 l0_0 x5_1).f2))) = true := beq_iff_eq.mpr c11
                      have c11b1 : ((rd l1 ((rd_T115 l0_0 x5_1).f1)) != (rd l1 ((rd_T115 l0_0 x5_1).f2))) = false := bne_eq_false_iff_eq.mpr c11
                      clear c11
                      by_cases c12 : ((rd_T115 l0_0 x5_1).f0) = 8
                      · rw [if_pos c12] at H
                        have c12b0 : (((rd_T115 l0_0 x5_1).f0) == 8) = true := beq_iff_eq.mpr c12
                        have c12b1 : (((rd_T115 l0_0 x5_1).f0) != 8) = false := bne_eq_false_iff_eq.mpr c12
                        clear c12
                        by_cases c13 : (rd l1 ((rd_T115 l0_0 x5_1).f1)) > 1
                        · rw [if_pos c13] at H
                          have c13b0 : decide (1 < (rd l1 ((rd_T115 l0_0 x5_1).f1))) = true := decide_eq_true c13
                          clear c13
                          obtain rfl := Option.some.inj H
                          have hcz14_0 : wr.cell? ⟨gb101, 0, none⟩ = some (.slice A0_0 l0_0.length c0_0) := (blk_cell BK101.out 0).trans rfl
                          have hfz14_0 := blk_frozen BK101.out 0
                          have p102 : 0 ≤ (x5_1 : Int) := of_decide_eq_true qz0_
                          have q102 : x5_1 < (l0_0.length : Int) := of_decide_eq_true qz0_
                          obtain ⟨ad102, e102, hx102_0, hx102_1, hx102_2, hx102_3⟩ := at_T115 HR0_0.out x5_1 p102 q102
                          cases e102
                          replace hx102_0 := (HB.out.cell (World.block_lt_of_cell? w _ hx102_0)).trans hx102_0
                          replace hx102_1 := (HB.out.cell (World.block_lt_of_cell? w _ hx102_1)).trans hx102_1
                          replace hx102_2 := (HB.out.cell (World.block_lt_of_cell? w _ hx102_2)).trans hx102_2
                          replace hx102_3 := (HB.out.cell (World.block_lt_of_cell? w _ hx102_3)).trans hx102_3
                          replace p102 := eq_true p102
                          replace q102 := eq_true q102
                          go_wp2_with (first | ((with_reducible refine gate_dst (N := 6) rfl ?_); refine box_event ?hg (N := 6) ?hd (cs := #[.int .i64 0, .int .i64 0, .int .i64 0, .int .i64 0]) (t := 115) ?hr ?_; (case hd => rfl); (case hg => rfl); (case hr => first | (go_simp; done) | (go_simp; rfl)); intro gb103 hg w15 hbox hb; have n0_ := Aside0.mk (blk_below (g := gb101) (o := .cells #[.slice (some ad102) l0_0.length c0_0] 63 (0, 0)) qz5_ hb); have n1_ := Aside0.mk (below_step qz6_ hb); have n2_ := Aside0.mk (hbox); have n3_ := Aside0.mk ((by rw [hg]; exact (below_size qz6_) : w.heap.size ≤ gb103)); have n4_ := Aside0.mk ((by rw [hg]; exact (below_size qz6_) : w.heap.size ≤ gb103)); have n5_ := Aside0.mk ((by rw [hg]; exact Nat.ne_of_lt (blk_lt (g := gb101) (o := .cells #[.slice (some ad102) l0_0.length c0_0] 63 (0, 0)) qz5_) : gb101 ≠ gb103)); have n6_ := Aside0.mk ((by rw [hg]; exact Nat.ne_of_gt (blk_lt (g := gb101) (o := .cells #[.slice (some ad102) l0_0.length c0_0] 63 (0, 0)) qz5_) : gb103 ≠ gb101)); clear BK101; clear HB; have BK101 := n0_; have HB := n1_; have BK103 := n2_; have GW103 := n3_; have GE103 := n4_; have NB101_103 := n5_; have NB103_101 := n6_; clear n0_ n1_ n2_ n3_ n4_ n5_ n6_; clear hb hbox hg; have hnb16 := NB103_101.out; have hnc16 := NB101_103.out; have hcz17_0 : w15.cell? ⟨gb103, 0, none⟩ = some (.int .i64 0) := (blk_cell BK103.out 0).trans rfl; have hcz17_1 : w15.cell? ⟨gb103, 1, none⟩ = some (.int .i64 0) := (blk_cell BK103.out 1).trans rfl; have hcz17_2 : w15.cell? ⟨gb103, 2, none⟩ = some (.int .i64 0) := (blk_cell BK103.out 2).trans rfl; have hcz17_3 : w15.cell? ⟨gb103, 3, none⟩ = some (.int .i64 0) := (blk_cell BK103.out 3).trans rfl; have hfz17_0 := blk_frozen BK103.out 0; have hfz17_1 := blk_frozen BK103.out 1; have hfz17_2 := blk_frozen BK103.out 2; have hfz17_3 := blk_frozen BK103.out 3; have p104 : 0 ≤ (((rd_T115 l0_0 x5_1).f1) : Int) := of_decide_eq_true qz0_; have q104 : ((rd_T115 l0_0 x5_1).f1) < (l1.length : Int) := of_decide_eq_true qz0_; obtain ⟨ad104, e104, hx104_0⟩ := Kd.at_int HR1.out ((rd_T115 l0_0 x5_1).f1) p104 q104; cases e104; have hn104_0 : ad104.block ≠ gb103 := Nat.ne_of_lt (Nat.lt_of_lt_of_le qz26_ GW103.out); have hn104_1 : ad104.block ≠ gb103 := Nat.ne_of_lt (Nat.lt_of_lt_of_le qz26_ GW103.out); have hn104_2 : ad104.block ≠ gb103 := Nat.ne_of_lt (Nat.lt_of_lt_of_le qz26_ GW103.out); have hn104_3 : ad104.block ≠ gb103 := Nat.ne_of_lt (Nat.lt_of_lt_of_le qz26_ GW103.out); replace hx104_0 := (HB.out.cell (World.block_lt_of_cell? w _ hx104_0)).trans hx104_0; replace hx104_0 := (cell_far (p := ⟨gb103, 0, none⟩) qz27_ (.int .i64 ((rd_T115 l0_0 x5_1).f0))).trans hx104_0; replace hx104_0 := (cell_far (p := ⟨gb103, 1, none⟩) qz28_ (.int .i64 ((rd_T115 l0_0 x5_1).f1))).trans hx104_0; replace hx104_0 := (cell_far (p := ⟨gb103, 2, none⟩) qz29_ (.int .i64 ((rd_T115 l0_0 x5_1).f2))).trans hx104_0; replace hx104_0 := (cell_far (p := ⟨gb103, 3, none⟩) qz30_ (.int .i64 ((rd_T115 l0_0 x5_1).f3))).trans hx104_0; (try have hy104_0 := fun (n_ : Nat) => (show ((((((w15.drewN n_).setCell ⟨gb103, 0, none⟩ (.int .i64 ((rd_T115 l0_0 x5_1).f0))).setCell ⟨gb103, 1, none⟩ (.int .i64 ((rd_T115 l0_0 x5_1).f1))).setCell ⟨gb103, 2, none⟩ (.int .i64 ((rd_T115 l0_0 x5_1).f2))).setCell ⟨gb103, 3, none⟩ (.int .i64 ((rd_T115 l0_0 x5_1).f3)))).cell? _ = some _ from hx104_0)); clear hn104_0; clear hn104_1; clear hn104_2; clear hn104_3; replace p104 := eq_true p104; replace q104 := eq_true q104; have p105 : 0 ≤ (((rd_T115 l0_0 x5_1).f2) : Int) := of_decide_eq_true qz0_; have q105 : ((rd_T115 l0_0 x5_1).f2) < (l1.length : Int) := of_decide_eq_true qz0_; obtain ⟨ad105, e105, hx105_0⟩ := Kd.at_int HR1.out ((rd_T115 l0_0 x5_1).f2) p105 q105; obtain rfl : ad104 = ad105 := (by injection e105); have hn105_0 : ad104.block ≠ gb103 := Nat.ne_of_lt (Nat.lt_of_lt_of_le qz31_ GW103.out); have hn105_1 : ad104.block ≠ gb103 := Nat.ne_of_lt (Nat.lt_of_lt_of_le qz31_ GW103.out); have hn105_2 : ad104.block ≠ gb103 := Nat.ne_of_lt (Nat.lt_of_lt_of_le qz31_ GW103.out); have hn105_3 : ad104.block ≠ gb103 := Nat.ne_of_lt (Nat.lt_of_lt_of_le qz31_ GW103.out); replace hx105_0 := (HB.out.cell (World.block_lt_of_cell? w _ hx105_0)).trans hx105_0; replace hx105_0 := (cell_far (p := ⟨gb103, 0, none⟩) qz32_ (.int .i64 ((rd_T115 l0_0 x5_1).f0))).trans hx105_0; replace hx105_0 := (cell_far (p := ⟨gb103, 1, none⟩) qz33_ (.int .i64 ((rd_T115 l0_0 x5_1).f1))).trans hx105_0; replace hx105_0 := (cell_far (p := ⟨gb103, 2, none⟩) qz34_ (.int .i64 ((rd_T115 l0_0 x5_1).f2))).trans hx105_0; replace hx105_0 := (cell_far (p := ⟨gb103, 3, none⟩) qz35_ (.int .i64 ((rd_T115 l0_0 x5_1).f3))).trans hx105_0; (try have hy105_0 := fun (n_ : Nat) => (show ((((((w15.drewN n_).setCell ⟨gb103, 0, none⟩ (.int .i64 ((rd_T115 l0_0 x5_1).f0))).setCell ⟨gb103, 1, none⟩ (.int .i64 ((rd_T115 l0_0 x5_1).f1))).setCell ⟨gb103, 2, none⟩ (.int .i64 ((rd_T115 l0_0 x5_1).f2))).setCell ⟨gb103, 3, none⟩ (.int .i64 ((rd_T115 l0_0 x5_1).f3)))).cell? _ = some _ from hx105_0)); clear hn105_0; clear hn105_1; clear hn105_2; clear hn105_3; replace p105 := eq_true p105; replace q105 := eq_true q105; have p106 : 0 ≤ (((rd_T115 l0_0 x5_1).f1) : Int) := of_decide_eq_true qz0_; have q106 : ((rd_T115 l0_0 x5_1).f1) < (l1.length : Int) := of_decide_eq_true qz0_; obtain ⟨ad106, e106, hx106_0⟩ := Kd.at_int HR1.out ((rd_T115 l0_0 x5_1).f1) p106 q106; obtain rfl : ad104 = ad106 := (by injection e106); have hn106_0 : ad104.block ≠ gb103 := Nat.ne_of_lt (Nat.lt_of_lt_of_le qz36_ GW103.out); have hn106_1 : ad104.block ≠ gb103 := Nat.ne_of_lt (Nat.lt_of_lt_of_le qz36_ GW103.out); have hn106_2 : ad104.block ≠ gb103 := Nat.ne_of_lt (Nat.lt_of_lt_of_le qz36_ GW103.out); have hn106_3 : ad104.block ≠ gb103 := Nat.ne_of_lt (Nat.lt_of_lt_of_le qz36_ GW103.out); replace hx106_0 := (HB.out.cell (World.block_lt_of_cell? w _ hx106_0)).trans hx106_0; replace hx106_0 := (cell_far (p := ⟨gb103, 0, none⟩) qz37_ (.int .i64 ((rd_T115 l0_0 x5_1).f0))).trans hx106_0; replace hx106_0 := (cell_far (p := ⟨gb103, 1, none⟩) qz38_ (.int .i64 ((rd_T115 l0_0 x5_1).f1))).trans hx106_0; replace hx106_0 := (cell_far (p := ⟨gb103, 2, none⟩) qz39_ (.int .i64 ((rd_T115 l0_0 x5_1).f2))).trans hx106_0; replace hx106_0 := (cell_far (p := ⟨gb103, 3, none⟩) qz40_ (.int .i64 ((rd_T115 l0_0 x5_1).f3))).trans hx106_0; (try have hy106_0 := fun (n_ : Nat) => (show ((((((w15.drewN n_).setCell ⟨gb103, 0, none⟩ (.int .i64 ((rd_T115 l0_0 x5_1).f0))).setCell ⟨gb103, 1, none⟩ (.int .i64 ((rd_T115 l0_0 x5_1).f1))).setCell ⟨gb103, 2, none⟩ (.int .i64 ((rd_T115 l0_0 x5_1).f2))).setCell ⟨gb103, 3, none⟩ (.int .i64 ((rd_T115 l0_0 x5_1).f3)))).cell? _ = some _ from hx106_0)); clear hn106_0; clear hn106_1; clear hn106_2; clear hn106_3; replace p106 := eq_true p106; replace q106 := eq_true q106))
                          repeat (go_quiet (first | ((with_reducible refine gate_dst (N := 6) rfl ?_); refine box_event ?hg (N := 6) ?hd (cs := #[.int .i64 0, .int .i64 0, .int .i64 0, .int .i64 0]) (t := 115) ?hr ?_; (case hd => rfl); (case hg => rfl); (case hr => first | (go_simp; done) | (go_simp; rfl)); intro gb103 hg w15 hbox hb; have n0_ := Aside0.mk (blk_below (g := gb101) (o := .cells #[.slice (some ad102) l0_0.length c0_0] 63 (0, 0)) qz5_ hb); have n1_ := Aside0.mk (below_step qz6_ hb); have n2_ := Aside0.mk (hbox); have n3_ := Aside0.mk ((by rw [hg]; exact (below_size qz6_) : w.heap.size ≤ gb103)); have n4_ := Aside0.mk ((by rw [hg]; exact (below_size qz6_) : w.heap.size ≤ gb103)); have n5_ := Aside0.mk ((by rw [hg]; exact Nat.ne_of_lt (blk_lt (g := gb101) (o := .cells #[.slice (some ad102) l0_0.length c0_0] 63 (0, 0)) qz5_) : gb101 ≠ gb103)); have n6_ := Aside0.mk ((by rw [hg]; exact Nat.ne_of_gt (blk_lt (g := gb101) (o := .cells #[.slice (some ad102) l0_0.length c0_0] 63 (0, 0)) qz5_) : gb103 ≠ gb101)); clear BK101; clear HB; have BK101 := n0_; have HB := n1_; have BK103 := n2_; have GW103 := n3_; have GE103 := n4_; have NB101_103 := n5_; have NB103_101 := n6_; clear n0_ n1_ n2_ n3_ n4_ n5_ n6_; clear hb hbox hg; have hnb16 := NB103_101.out; have hnc16 := NB101_103.out; have hcz17_0 : w15.cell? ⟨gb103, 0, none⟩ = some (.int .i64 0) := (blk_cell BK103.out 0).trans rfl; have hcz17_1 : w15.cell? ⟨gb103, 1, none⟩ = some (.int .i64 0) := (blk_cell BK103.out 1).trans rfl; have hcz17_2 : w15.cell? ⟨gb103, 2, none⟩ = some (.int .i64 0) := (blk_cell BK103.out 2).trans rfl; have hcz17_3 : w15.cell? ⟨gb103, 3, none⟩ = some (.int .i64 0) := (blk_cell BK103.out 3).trans rfl; have hfz17_0 := blk_frozen BK103.out 0; have hfz17_1 := blk_frozen BK103.out 1; have hfz17_2 := blk_frozen BK103.out 2; have hfz17_3 := blk_frozen BK103.out 3; have p104 : 0 ≤ (((rd_T115 l0_0 x5_1).f1) : Int) := of_decide_eq_true qz0_; have q104 : ((rd_T115 l0_0 x5_1).f1) < (l1.length : Int) := of_decide_eq_true qz0_; obtain ⟨ad104, e104, hx104_0⟩ := Kd.at_int HR1.out ((rd_T115 l0_0 x5_1).f1) p104 q104; cases e104; have hn104_0 : ad104.block ≠ gb103 := Nat.ne_of_lt (Nat.lt_of_lt_of_le qz26_ GW103.out); have hn104_1 : ad104.block ≠ gb103 := Nat.ne_of_lt (Nat.lt_of_lt_of_le qz26_ GW103.out); have hn104_2 : ad104.block ≠ gb103 := Nat.ne_of_lt (Nat.lt_of_lt_of_le qz26_ GW103.out); have hn104_3 : ad104.block ≠ gb103 := Nat.ne_of_lt (Nat.lt_of_lt_of_le qz26_ GW103.out); replace hx104_0 := (HB.out.cell (World.block_lt_of_cell? w _ hx104_0)).trans hx104_0; replace hx104_0 := (cell_far (p := ⟨gb103, 0, none⟩) qz27_ (.int .i64 ((rd_T115 l0_0 x5_1).f0))).trans hx104_0; replace hx104_0 := (cell_far (p := ⟨gb103, 1, none⟩) qz28_ (.int .i64 ((rd_T115 l0_0 x5_1).f1))).trans hx104_0; replace hx104_0 := (cell_far (p := ⟨gb103, 2, none⟩) qz29_ (.int .i64 ((rd_T115 l0_0 x5_1).f2))).trans hx104_0; replace hx104_0 := (cell_far (p := ⟨gb103, 3, none⟩) qz30_ (.int .i64 ((rd_T115 l0_0 x5_1).f3))).trans hx104_0; (try have hy104_0 := fun (n_ : Nat) => (show ((((((w15.drewN n_).setCell ⟨gb103, 0, none⟩ (.int .i64 ((rd_T115 l0_0 x5_1).f0))).setCell ⟨gb103, 1, none⟩ (.int .i64 ((rd_T115 l0_0 x5_1).f1))).setCell ⟨gb103, 2, none⟩ (.int .i64 ((rd_T115 l0_0 x5_1).f2))).setCell ⟨gb103, 3, none⟩ (.int .i64 ((rd_T115 l0_0 x5_1).f3)))).cell? _ = some _ from hx104_0)); clear hn104_0; clear hn104_1; clear hn104_2; clear hn104_3; replace p104 := eq_true p104; replace q104 := eq_true q104; have p105 : 0 ≤ (((rd_T115 l0_0 x5_1).f2) : Int) := of_decide_eq_true qz0_; have q105 : ((rd_T115 l0_0 x5_1).f2) < (l1.length : Int) := of_decide_eq_true qz0_; obtain ⟨ad105, e105, hx105_0⟩ := Kd.at_int HR1.out ((rd_T115 l0_0 x5_1).f2) p105 q105; obtain rfl : ad104 = ad105 := (by injection e105); have hn105_0 : ad104.block ≠ gb103 := Nat.ne_of_lt (Nat.lt_of_lt_of_le qz31_ GW103.out); have hn105_1 : ad104.block ≠ gb103 := Nat.ne_of_lt (Nat.lt_of_lt_of_le qz31_ GW103.out); have hn105_2 : ad104.block ≠ gb103 := Nat.ne_of_lt (Nat.lt_of_lt_of_le qz31_ GW103.out); have hn105_3 : ad104.block ≠ gb103 := Nat.ne_of_lt (Nat.lt_of_lt_of_le qz31_ GW103.out); replace hx105_0 := (HB.out.cell (World.block_lt_of_cell? w _ hx105_0)).trans hx105_0; replace hx105_0 := (cell_far (p := ⟨gb103, 0, none⟩) qz32_ (.int .i64 ((rd_T115 l0_0 x5_1).f0))).trans hx105_0; replace hx105_0 := (cell_far (p := ⟨gb103, 1, none⟩) qz33_ (.int .i64 ((rd_T115 l0_0 x5_1).f1))).trans hx105_0; replace hx105_0 := (cell_far (p := ⟨gb103, 2, none⟩) qz34_ (.int .i64 ((rd_T115 l0_0 x5_1).f2))).trans hx105_0; replace hx105_0 := (cell_far (p := ⟨gb103, 3, none⟩) qz35_ (.int .i64 ((rd_T115 l0_0 x5_1).f3))).trans hx105_0; (try have hy105_0 := fun (n_ : Nat) => (show ((((((w15.drewN n_).setCell ⟨gb103, 0, none⟩ (.int .i64 ((rd_T115 l0_0 x5_1).f0))).setCell ⟨gb103, 1, none⟩ (.int .i64 ((rd_T115 l0_0 x5_1).f1))).setCell ⟨gb103, 2, none⟩ (.int .i64 ((rd_T115 l0_0 x5_1).f2))).setCell ⟨gb103, 3, none⟩ (.int .i64 ((rd_T115 l0_0 x5_1).f3)))).cell? _ = some _ from hx105_0)); clear hn105_0; clear hn105_1; clear hn105_2; clear hn105_3; replace p105 := eq_true p105; replace q105 := eq_true q105; have p106 : 0 ≤ (((rd_T115 l0_0 x5_1).f1) : Int) := of_decide_eq_true qz0_; have q106 : ((rd_T115 l0_0 x5_1).f1) < (l1.length : Int) := of_decide_eq_true qz0_; obtain ⟨ad106, e106, hx106_0⟩ := Kd.at_int HR1.out ((rd_T115 l0_0 x5_1).f1) p106 q106; obtain rfl : ad104 = ad106 := (by injection e106); have hn106_0 : ad104.block ≠ gb103 := Nat.ne_of_lt (Nat.lt_of_lt_of_le qz36_ GW103.out); have hn106_1 : ad104.block ≠ gb103 := Nat.ne_of_lt (Nat.lt_of_lt_of_le qz36_ GW103.out); have hn106_2 : ad104.block ≠ gb103 := Nat.ne_of_lt (Nat.lt_of_lt_of_le qz36_ GW103.out); have hn106_3 : ad104.block ≠ gb103 := Nat.ne_of_lt (Nat.lt_of_lt_of_le qz36_ GW103.out); replace hx106_0 := (HB.out.cell (World.block_lt_of_cell? w _ hx106_0)).trans hx106_0; replace hx106_0 := (cell_far (p := ⟨gb103, 0, none⟩) qz37_ (.int .i64 ((rd_T115 l0_0 x5_1).f0))).trans hx106_0; replace hx106_0 := (cell_far (p := ⟨gb103, 1, none⟩) qz38_ (.int .i64 ((rd_T115 l0_0 x5_1).f1))).trans hx106_0; replace hx106_0 := (cell_far (p := ⟨gb103, 2, none⟩) qz39_ (.int .i64 ((rd_T115 l0_0 x5_1).f2))).trans hx106_0; replace hx106_0 := (cell_far (p := ⟨gb103, 3, none⟩) qz40_ (.int .i64 ((rd_T115 l0_0 x5_1).f3))).trans hx106_0; (try have hy106_0 := fun (n_ : Nat) => (show ((((((w15.drewN n_).setCell ⟨gb103, 0, none⟩ (.int .i64 ((rd_T115 l0_0 x5_1).f0))).setCell ⟨gb103, 1, none⟩ (.int .i64 ((rd_T115 l0_0 x5_1).f1))).setCell ⟨gb103, 2, none⟩ (.int .i64 ((rd_T115 l0_0 x5_1).f2))).setCell ⟨gb103, 3, none⟩ (.int .i64 ((rd_T115 l0_0 x5_1).f3)))).cell? _ = some _ from hx106_0)); clear hn106_0; clear hn106_1; clear hn106_2; clear hn106_3; replace p106 := eq_true p106; replace q106 := eq_true q106)); try go_wp2_with (first | ((with_reducible refine gate_dst (N := 6) rfl ?_); refine box_event ?hg (N := 6) ?hd (cs := #[.int .i64 0, .int .i64 0, .int .i64 0, .int .i64 0]) (t := 115) ?hr ?_; (case hd => rfl); (case hg => rfl); (case hr => first | (go_simp; done) | (go_simp; rfl)); intro gb103 hg w15 hbox hb; have n0_ := Aside0.mk (blk_below (g := gb101) (o := .cells #[.slice (some ad102) l0_0.length c0_0] 63 (0, 0)) qz5_ hb); have n1_ := Aside0.mk (below_step qz6_ hb); have n2_ := Aside0.mk (hbox); have n3_ := Aside0.mk ((by rw [hg]; exact (below_size qz6_) : w.heap.size ≤ gb103)); have n4_ := Aside0.mk ((by rw [hg]; exact (below_size qz6_) : w.heap.size ≤ gb103)); have n5_ := Aside0.mk ((by rw [hg]; exact Nat.ne_of_lt (blk_lt (g := gb101) (o := .cells #[.slice (some ad102) l0_0.length c0_0] 63 (0, 0)) qz5_) : gb101 ≠ gb103)); have n6_ := Aside0.mk ((by rw [hg]; exact Nat.ne_of_gt (blk_lt (g := gb101) (o := .cells #[.slice (some ad102) l0_0.length c0_0] 63 (0, 0)) qz5_) : gb103 ≠ gb101)); clear BK101; clear HB; have BK101 := n0_; have HB := n1_; have BK103 := n2_; have GW103 := n3_; have GE103 := n4_; have NB101_103 := n5_; have NB103_101 := n6_; clear n0_ n1_ n2_ n3_ n4_ n5_ n6_; clear hb hbox hg; have hnb16 := NB103_101.out; have hnc16 := NB101_103.out; have hcz17_0 : w15.cell? ⟨gb103, 0, none⟩ = some (.int .i64 0) := (blk_cell BK103.out 0).trans rfl; have hcz17_1 : w15.cell? ⟨gb103, 1, none⟩ = some (.int .i64 0) := (blk_cell BK103.out 1).trans rfl; have hcz17_2 : w15.cell? ⟨gb103, 2, none⟩ = some (.int .i64 0) := (blk_cell BK103.out 2).trans rfl; have hcz17_3 : w15.cell? ⟨gb103, 3, none⟩ = some (.int .i64 0) := (blk_cell BK103.out 3).trans rfl; have hfz17_0 := blk_frozen BK103.out 0; have hfz17_1 := blk_frozen BK103.out 1; have hfz17_2 := blk_frozen BK103.out 2; have hfz17_3 := blk_frozen BK103.out 3; have p104 : 0 ≤ (((rd_T115 l0_0 x5_1).f1) : Int) := of_decide_eq_true qz0_; have q104 : ((rd_T115 l0_0 x5_1).f1) < (l1.length : Int) := of_decide_eq_true qz0_; obtain ⟨ad104, e104, hx104_0⟩ := Kd.at_int HR1.out ((rd_T115 l0_0 x5_1).f1) p104 q104; cases e104; have hn104_0 : ad104.block ≠ gb103 := Nat.ne_of_lt (Nat.lt_of_lt_of_le qz26_ GW103.out); have hn104_1 : ad104.block ≠ gb103 := Nat.ne_of_lt (Nat.lt_of_lt_of_le qz26_ GW103.out); have hn104_2 : ad104.block ≠ gb103 := Nat.ne_of_lt (Nat.lt_of_lt_of_le qz26_ GW103.out); have hn104_3 : ad104.block ≠ gb103 := Nat.ne_of_lt (Nat.lt_of_lt_of_le qz26_ GW103.out); replace hx104_0 := (HB.out.cell (World.block_lt_of_cell? w _ hx104_0)).trans hx104_0; replace hx104_0 := (cell_far (p := ⟨gb103, 0, none⟩) qz27_ (.int .i64 ((rd_T115 l0_0 x5_1).f0))).trans hx104_0; replace hx104_0 := (cell_far (p := ⟨gb103, 1, none⟩) qz28_ (.int .i64 ((rd_T115 l0_0 x5_1).f1))).trans hx104_0; replace hx104_0 := (cell_far (p := ⟨gb103, 2, none⟩) qz29_ (.int .i64 ((rd_T115 l0_0 x5_1).f2))).trans hx104_0; replace hx104_0 := (cell_far (p := ⟨gb103, 3, none⟩) qz30_ (.int .i64 ((rd_T115 l0_0 x5_1).f3))).trans hx104_0; (try have hy104_0 := fun (n_ : Nat) => (show ((((((w15.drewN n_).setCell ⟨gb103, 0, none⟩ (.int .i64 ((rd_T115 l0_0 x5_1).f0))).setCell ⟨gb103, 1, none⟩ (.int .i64 ((rd_T115 l0_0 x5_1).f1))).setCell ⟨gb103, 2, none⟩ (.int .i64 ((rd_T115 l0_0 x5_1).f2))).setCell ⟨gb103, 3, none⟩ (.int .i64 ((rd_T115 l0_0 x5_1).f3)))).cell? _ = some _ from hx104_0)); clear hn104_0; clear hn104_1; clear hn104_2; clear hn104_3; replace p104 := eq_true p104; replace q104 := eq_true q104; have p105 : 0 ≤ (((rd_T115 l0_0 x5_1).f2) : Int) := of_decide_eq_true qz0_; have q105 : ((rd_T115 l0_0 x5_1).f2) < (l1.length : Int) := of_decide_eq_true qz0_; obtain ⟨ad105, e105, hx105_0⟩ := Kd.at_int HR1.out ((rd_T115 l0_0 x5_1).f2) p105 q105; obtain rfl : ad104 = ad105 := (by injection e105); have hn105_0 : ad104.block ≠ gb103 := Nat.ne_of_lt (Nat.lt_of_lt_of_le qz31_ GW103.out); have hn105_1 : ad104.block ≠ gb103 := Nat.ne_of_lt (Nat.lt_of_lt_of_le qz31_ GW103.out); have hn105_2 : ad104.block ≠ gb103 := Nat.ne_of_lt (Nat.lt_of_lt_of_le qz31_ GW103.out); have hn105_3 : ad104.block ≠ gb103 := Nat.ne_of_lt (Nat.lt_of_lt_of_le qz31_ GW103.out); replace hx105_0 := (HB.out.cell (World.block_lt_of_cell? w _ hx105_0)).trans hx105_0; replace hx105_0 := (cell_far (p := ⟨gb103, 0, none⟩) qz32_ (.int .i64 ((rd_T115 l0_0 x5_1).f0))).trans hx105_0; replace hx105_0 := (cell_far (p := ⟨gb103, 1, none⟩) qz33_ (.int .i64 ((rd_T115 l0_0 x5_1).f1))).trans hx105_0; replace hx105_0 := (cell_far (p := ⟨gb103, 2, none⟩) qz34_ (.int .i64 ((rd_T115 l0_0 x5_1).f2))).trans hx105_0; replace hx105_0 := (cell_far (p := ⟨gb103, 3, none⟩) qz35_ (.int .i64 ((rd_T115 l0_0 x5_1).f3))).trans hx105_0; (try have hy105_0 := fun (n_ : Nat) => (show ((((((w15.drewN n_).setCell ⟨gb103, 0, none⟩ (.int .i64 ((rd_T115 l0_0 x5_1).f0))).setCell ⟨gb103, 1, none⟩ (.int .i64 ((rd_T115 l0_0 x5_1).f1))).setCell ⟨gb103, 2, none⟩ (.int .i64 ((rd_T115 l0_0 x5_1).f2))).setCell ⟨gb103, 3, none⟩ (.int .i64 ((rd_T115 l0_0 x5_1).f3)))).cell? _ = some _ from hx105_0)); clear hn105_0; clear hn105_1; clear hn105_2; clear hn105_3; replace p105 := eq_true p105; replace q105 := eq_true q105; have p106 : 0 ≤ (((rd_T115 l0_0 x5_1).f1) : Int) := of_decide_eq_true qz0_; have q106 : ((rd_T115 l0_0 x5_1).f1) < (l1.length : Int) := of_decide_eq_true qz0_; obtain ⟨ad106, e106, hx106_0⟩ := Kd.at_int HR1.out ((rd_T115 l0_0 x5_1).f1) p106 q106; obtain rfl : ad104 = ad106 := (by injection e106); have hn106_0 : ad104.block ≠ gb103 := Nat.ne_of_lt (Nat.lt_of_lt_of_le qz36_ GW103.out); have hn106_1 : ad104.block ≠ gb103 := Nat.ne_of_lt (Nat.lt_of_lt_of_le qz36_ GW103.out); have hn106_2 : ad104.block ≠ gb103 := Nat.ne_of_lt (Nat.lt_of_lt_of_le qz36_ GW103.out); have hn106_3 : ad104.block ≠ gb103 := Nat.ne_of_lt (Nat.lt_of_lt_of_le qz36_ GW103.out); replace hx106_0 := (HB.out.cell (World.block_lt_of_cell? w _ hx106_0)).trans hx106_0; replace hx106_0 := (cell_far (p := ⟨gb103, 0, none⟩) qz37_ (.int .i64 ((rd_T115 l0_0 x5_1).f0))).trans hx106_0; replace hx106_0 := (cell_far (p := ⟨gb103, 1, none⟩) qz38_ (.int .i64 ((rd_T115 l0_0 x5_1).f1))).trans hx106_0; replace hx106_0 := (cell_far (p := ⟨gb103, 2, none⟩) qz39_ (.int .i64 ((rd_T115 l0_0 x5_1).f2))).trans hx106_0; replace hx106_0 := (cell_far (p := ⟨gb103, 3, none⟩) qz40_ (.int .i64 ((rd_T115 l0_0 x5_1).f3))).trans hx106_0; (try have hy106_0 := fun (n_ : Nat) => (show ((((((w15.drewN n_).setCell ⟨gb103, 0, none⟩ (.int .i64 ((rd_T115 l0_0 x5_1).f0))).setCell ⟨gb103, 1, none⟩ (.int .i64 ((rd_T115 l0_0 x5_1).f1))).setCell ⟨gb103, 2, none⟩ (.int .i64 ((rd_T115 l0_0 x5_1).f2))).setCell ⟨gb103, 3, none⟩ (.int .i64 ((rd_T115 l0_0 x5_1).f3)))).cell? _ = some _ from hx106_0)); clear hn106_0; clear hn106_1; clear hn106_2; clear hn106_3; replace p106 := eq_true p106; replace q106 := eq_true q106)))
                          go_ret
                          exact ⟨by first | rfl | (simp [errW_none, errW_some] <;> rfl) | (simp [*, errW_none, errW_some] <;> rfl), by repeat (first | (with_reducible first | exact HB.out | apply below_alloc | apply pw_below_drewN | apply below_drew1 | refine below_set ?_ GE101.out | refine below_set ?_ GE103.out) | exact HB.out)⟩
                        · rw [if_neg c13] at H
                          have c13b0 : decide (1 < (rd l1 ((rd_T115 l0_0 x5_1).f1))) = false := decide_eq_false c13
                          clear c13
                          have H' := Aside0.mk H
                          clear H
                          have hcz18_0 : wr.cell? ⟨gb101, 0, none⟩ = some (.slice A0_0 l0_0.length c0_0) := (blk_cell BK101.out 0).trans rfl
                          have hfz18_0 := blk_frozen BK101.out 0
                          have p102 : 0 ≤ (x5_1 : Int) := of_decide_eq_true qz0_
                          have q102 : x5_1 < (l0_0.length : Int) := of_decide_eq_true qz0_
                          obtain ⟨ad102, e102, hx102_0, hx102_1, hx102_2, hx102_3⟩ := at_T115 HR0_0.out x5_1 p102 q102
                          cases e102
                          replace hx102_0 := (HB.out.cell (World.block_lt_of_cell? w _ hx102_0)).trans hx102_0
                          replace hx102_1 := (HB.out.cell (World.block_lt_of_cell? w _ hx102_1)).trans hx102_1
                          replace hx102_2 := (HB.out.cell (World.block_lt_of_cell? w _ hx102_2)).trans hx102_2
                          replace hx102_3 := (HB.out.cell (World.block_lt_of_cell? w _ hx102_3)).trans hx102_3
                          replace p102 := eq_true p102
                          replace q102 := eq_true q102
                          go_wp2_with (first | ((with_reducible refine gate_dst (N := 6) rfl ?_); refine box_event ?hg (N := 6) ?hd (cs := #[.int .i64 0, .int .i64 0, .int .i64 0, .int .i64 0]) (t := 115) ?hr ?_; (case hd => rfl); (case hg => rfl); (case hr => first | (go_simp; done) | (go_simp; rfl)); intro gb103 hg w19 hbox hb; have n0_ := Aside0.mk (blk_below (g := gb101) (o := .cells #[.slice (some ad102) l0_0.length c0_0] 63 (0, 0)) qz5_ hb); have n1_ := Aside0.mk (below_step qz6_ hb); have n2_ := Aside0.mk (hbox); have n3_ := Aside0.mk ((by rw [hg]; exact (below_size qz6_) : w.heap.size ≤ gb103)); have n4_ := Aside0.mk ((by rw [hg]; exact (below_size qz6_) : w.heap.size ≤ gb103)); have n5_ := Aside0.mk ((by rw [hg]; exact Nat.ne_of_lt (blk_lt (g := gb101) (o := .cells #[.slice (some ad102) l0_0.length c0_0] 63 (0, 0)) qz5_) : gb101 ≠ gb103)); have n6_ := Aside0.mk ((by rw [hg]; exact Nat.ne_of_gt (blk_lt (g := gb101) (o := .cells #[.slice (some ad102) l0_0.length c0_0] 63 (0, 0)) qz5_) : gb103 ≠ gb101)); clear BK101; clear HB; have BK101 := n0_; have HB := n1_; have BK103 := n2_; have GW103 := n3_; have GE103 := n4_; have NB101_103 := n5_; have NB103_101 := n6_; clear n0_ n1_ n2_ n3_ n4_ n5_ n6_; clear hb hbox hg; have hnb20 := NB103_101.out; have hnc20 := NB101_103.out; have hcz21_0 : w19.cell? ⟨gb103, 0, none⟩ = some (.int .i64 0) := (blk_cell BK103.out 0).trans rfl; have hcz21_1 : w19.cell? ⟨gb103, 1, none⟩ = some (.int .i64 0) := (blk_cell BK103.out 1).trans rfl; have hcz21_2 : w19.cell? ⟨gb103, 2, none⟩ = some (.int .i64 0) := (blk_cell BK103.out 2).trans rfl; have hcz21_3 : w19.cell? ⟨gb103, 3, none⟩ = some (.int .i64 0) := (blk_cell BK103.out 3).trans rfl; have hfz21_0 := blk_frozen BK103.out 0; have hfz21_1 := blk_frozen BK103.out 1; have hfz21_2 := blk_frozen BK103.out 2; have hfz21_3 := blk_frozen BK103.out 3; have p104 : 0 ≤ (((rd_T115 l0_0 x5_1).f1) : Int) := of_decide_eq_true qz0_; have q104 : ((rd_T115 l0_0 x5_1).f1) < (l1.length : Int) := of_decide_eq_true qz0_; obtain ⟨ad104, e104, hx104_0⟩ := Kd.at_int HR1.out ((rd_T115 l0_0 x5_1).f1) p104 q104; cases e104; have hn104_0 : ad104.block ≠ gb103 := Nat.ne_of_lt (Nat.lt_of_lt_of_le qz26_ GW103.out); have hn104_1 : ad104.block ≠ gb103 := Nat.ne_of_lt (Nat.lt_of_lt_of_le qz26_ GW103.out); have hn104_2 : ad104.block ≠ gb103 := Nat.ne_of_lt (Nat.lt_of_lt_of_le qz26_ GW103.out); have hn104_3 : ad104.block ≠ gb103 := Nat.ne_of_lt (Nat.lt_of_lt_of_le qz26_ GW103.out); replace hx104_0 := (HB.out.cell (World.block_lt_of_cell? w _ hx104_0)).trans hx104_0; replace hx104_0 := (cell_far (p := ⟨gb103, 0, none⟩) qz27_ (.int .i64 ((rd_T115 l0_0 x5_1).f0))).trans hx104_0; replace hx104_0 := (cell_far (p := ⟨gb103, 1, none⟩) qz28_ (.int .i64 ((rd_T115 l0_0 x5_1).f1))).trans hx104_0; replace hx104_0 := (cell_far (p := ⟨gb103, 2, none⟩) qz29_ (.int .i64 ((rd_T115 l0_0 x5_1).f2))).trans hx104_0; replace hx104_0 := (cell_far (p := ⟨gb103, 3, none⟩) qz30_ (.int .i64 ((rd_T115 l0_0 x5_1).f3))).trans hx104_0; (try have hy104_0 := fun (n_ : Nat) => (show ((((((w19.drewN n_).setCell ⟨gb103, 0, none⟩ (.int .i64 ((rd_T115 l0_0 x5_1).f0))).setCell ⟨gb103, 1, none⟩ (.int .i64 ((rd_T115 l0_0 x5_1).f1))).setCell ⟨gb103, 2, none⟩ (.int .i64 ((rd_T115 l0_0 x5_1).f2))).setCell ⟨gb103, 3, none⟩ (.int .i64 ((rd_T115 l0_0 x5_1).f3)))).cell? _ = some _ from hx104_0)); clear hn104_0; clear hn104_1; clear hn104_2; clear hn104_3; replace p104 := eq_true p104; replace q104 := eq_true q104; have p105 : 0 ≤ (((rd_T115 l0_0 x5_1).f2) : Int) := of_decide_eq_true qz0_; have q105 : ((rd_T115 l0_0 x5_1).f2) < (l1.length : Int) := of_decide_eq_true qz0_; obtain ⟨ad105, e105, hx105_0⟩ := Kd.at_int HR1.out ((rd_T115 l0_0 x5_1).f2) p105 q105; obtain rfl : ad104 = ad105 := (by injection e105); have hn105_0 : ad104.block ≠ gb103 := Nat.ne_of_lt (Nat.lt_of_lt_of_le qz31_ GW103.out); have hn105_1 : ad104.block ≠ gb103 := Nat.ne_of_lt (Nat.lt_of_lt_of_le qz31_ GW103.out); have hn105_2 : ad104.block ≠ gb103 := Nat.ne_of_lt (Nat.lt_of_lt_of_le qz31_ GW103.out); have hn105_3 : ad104.block ≠ gb103 := Nat.ne_of_lt (Nat.lt_of_lt_of_le qz31_ GW103.out); replace hx105_0 := (HB.out.cell (World.block_lt_of_cell? w _ hx105_0)).trans hx105_0; replace hx105_0 := (cell_far (p := ⟨gb103, 0, none⟩) qz32_ (.int .i64 ((rd_T115 l0_0 x5_1).f0))).trans hx105_0; replace hx105_0 := (cell_far (p := ⟨gb103, 1, none⟩) qz33_ (.int .i64 ((rd_T115 l0_0 x5_1).f1))).trans hx105_0; replace hx105_0 := (cell_far (p := ⟨gb103, 2, none⟩) qz34_ (.int .i64 ((rd_T115 l0_0 x5_1).f2))).trans hx105_0; replace hx105_0 := (cell_far (p := ⟨gb103, 3, none⟩) qz35_ (.int .i64 ((rd_T115 l0_0 x5_1).f3))).trans hx105_0; (try have hy105_0 := fun (n_ : Nat) => (show ((((((w19.drewN n_).setCell ⟨gb103, 0, none⟩ (.int .i64 ((rd_T115 l0_0 x5_1).f0))).setCell ⟨gb103, 1, none⟩ (.int .i64 ((rd_T115 l0_0 x5_1).f1))).setCell ⟨gb103, 2, none⟩ (.int .i64 ((rd_T115 l0_0 x5_1).f2))).setCell ⟨gb103, 3, none⟩ (.int .i64 ((rd_T115 l0_0 x5_1).f3)))).cell? _ = some _ from hx105_0)); clear hn105_0; clear hn105_1; clear hn105_2; clear hn105_3; replace p105 := eq_true p105; replace q105 := eq_true q105; have p106 : 0 ≤ (((rd_T115 l0_0 x5_1).f1) : Int) := of_decide_eq_true qz0_; have q106 : ((rd_T115 l0_0 x5_1).f1) < (l1.length : Int) := of_decide_eq_true qz0_; obtain ⟨ad106, e106, hx106_0⟩ := Kd.at_int HR1.out ((rd_T115 l0_0 x5_1).f1) p106 q106; obtain rfl : ad104 = ad106 := (by injection e106); have hn106_0 : ad104.block ≠ gb103 := Nat.ne_of_lt (Nat.lt_of_lt_of_le qz36_ GW103.out); have hn106_1 : ad104.block ≠ gb103 := Nat.ne_of_lt (Nat.lt_of_lt_of_le qz36_ GW103.out); have hn106_2 : ad104.block ≠ gb103 := Nat.ne_of_lt (Nat.lt_of_lt_of_le qz36_ GW103.out); have hn106_3 : ad104.block ≠ gb103 := Nat.ne_of_lt (Nat.lt_of_lt_of_le qz36_ GW103.out); replace hx106_0 := (HB.out.cell (World.block_lt_of_cell? w _ hx106_0)).trans hx106_0; replace hx106_0 := (cell_far (p := ⟨gb103, 0, none⟩) qz37_ (.int .i64 ((rd_T115 l0_0 x5_1).f0))).trans hx106_0; replace hx106_0 := (cell_far (p := ⟨gb103, 1, none⟩) qz38_ (.int .i64 ((rd_T115 l0_0 x5_1).f1))).trans hx106_0; replace hx106_0 := (cell_far (p := ⟨gb103, 2, none⟩) qz39_ (.int .i64 ((rd_T115 l0_0 x5_1).f2))).trans hx106_0; replace hx106_0 := (cell_far (p := ⟨gb103, 3, none⟩) qz40_ (.int .i64 ((rd_T115 l0_0 x5_1).f3))).trans hx106_0; (try have hy106_0 := fun (n_ : Nat) => (show ((((((w19.drewN n_).setCell ⟨gb103, 0, none⟩ (.int .i64 ((rd_T115 l0_0 x5_1).f0))).setCell ⟨gb103, 1, none⟩ (.int .i64 ((rd_T115 l0_0 x5_1).f1))).setCell ⟨gb103, 2, none⟩ (.int .i64 ((rd_T115 l0_0 x5_1).f2))).setCell ⟨gb103, 3, none⟩ (.int .i64 ((rd_T115 l0_0 x5_1).f3)))).cell? _ = some _ from hx106_0)); clear hn106_0; clear hn106_1; clear hn106_2; clear hn106_3; replace p106 := eq_true p106; replace q106 := eq_true q106))
                          repeat (go_quiet (first | ((with_reducible refine gate_dst (N := 6) rfl ?_); refine box_event ?hg (N := 6) ?hd (cs := #[.int .i64 0, .int .i64 0, .int .i64 0, .int .i64 0]) (t := 115) ?hr ?_; (case hd => rfl); (case hg => rfl); (case hr => first | (go_simp; done) | (go_simp; rfl)); intro gb103 hg w19 hbox hb; have n0_ := Aside0.mk (blk_below (g := gb101) (o := .cells #[.slice (some ad102) l0_0.length c0_0] 63 (0, 0)) qz5_ hb); have n1_ := Aside0.mk (below_step qz6_ hb); have n2_ := Aside0.mk (hbox); have n3_ := Aside0.mk ((by rw [hg]; exact (below_size qz6_) : w.heap.size ≤ gb103)); have n4_ := Aside0.mk ((by rw [hg]; exact (below_size qz6_) : w.heap.size ≤ gb103)); have n5_ := Aside0.mk ((by rw [hg]; exact Nat.ne_of_lt (blk_lt (g := gb101) (o := .cells #[.slice (some ad102) l0_0.length c0_0] 63 (0, 0)) qz5_) : gb101 ≠ gb103)); have n6_ := Aside0.mk ((by rw [hg]; exact Nat.ne_of_gt (blk_lt (g := gb101) (o := .cells #[.slice (some ad102) l0_0.length c0_0] 63 (0, 0)) qz5_) : gb103 ≠ gb101)); clear BK101; clear HB; have BK101 := n0_; have HB := n1_; have BK103 := n2_; have GW103 := n3_; have GE103 := n4_; have NB101_103 := n5_; have NB103_101 := n6_; clear n0_ n1_ n2_ n3_ n4_ n5_ n6_; clear hb hbox hg; have hnb20 := NB103_101.out; have hnc20 := NB101_103.out; have hcz21_0 : w19.cell? ⟨gb103, 0, none⟩ = some (.int .i64 0) := (blk_cell BK103.out 0).trans rfl; have hcz21_1 : w19.cell? ⟨gb103, 1, none⟩ = some (.int .i64 0) := (blk_cell BK103.out 1).trans rfl; have hcz21_2 : w19.cell? ⟨gb103, 2, none⟩ = some (.int .i64 0) := (blk_cell BK103.out 2).trans rfl; have hcz21_3 : w19.cell? ⟨gb103, 3, none⟩ = some (.int .i64 0) := (blk_cell BK103.out 3).trans rfl; have hfz21_0 := blk_frozen BK103.out 0; have hfz21_1 := blk_frozen BK103.out 1; have hfz21_2 := blk_frozen BK103.out 2; have hfz21_3 := blk_frozen BK103.out 3; have p104 : 0 ≤ (((rd_T115 l0_0 x5_1).f1) : Int) := of_decide_eq_true qz0_; have q104 : ((rd_T115 l0_0 x5_1).f1) < (l1.length : Int) := of_decide_eq_true qz0_; obtain ⟨ad104, e104, hx104_0⟩ := Kd.at_int HR1.out ((rd_T115 l0_0 x5_1).f1) p104 q104; cases e104; have hn104_0 : ad104.block ≠ gb103 := Nat.ne_of_lt (Nat.lt_of_lt_of_le qz26_ GW103.out); have hn104_1 : ad104.block ≠ gb103 := Nat.ne_of_lt (Nat.lt_of_lt_of_le qz26_ GW103.out); have hn104_2 : ad104.block ≠ gb103 := Nat.ne_of_lt (Nat.lt_of_lt_of_le qz26_ GW103.out); have hn104_3 : ad104.block ≠ gb103 := Nat.ne_of_lt (Nat.lt_of_lt_of_le qz26_ GW103.out); replace hx104_0 := (HB.out.cell (World.block_lt_of_cell? w _ hx104_0)).trans hx104_0; replace hx104_0 := (cell_far (p := ⟨gb103, 0, none⟩) qz27_ (.int .i64 ((rd_T115 l0_0 x5_1).f0))).trans hx104_0; replace hx104_0 := (cell_far (p := ⟨gb103, 1, none⟩) qz28_ (.int .i64 ((rd_T115 l0_0 x5_1).f1))).trans hx104_0; replace hx104_0 := (cell_far (p := ⟨gb103, 2, none⟩) qz29_ (.int .i64 ((rd_T115 l0_0 x5_1).f2))).trans hx104_0; replace hx104_0 := (cell_far (p := ⟨gb103, 3, none⟩) qz30_ (.int .i64 ((rd_T115 l0_0 x5_1).f3))).trans hx104_0; (try have hy104_0 := fun (n_ : Nat) => (show ((((((w19.drewN n_).setCell ⟨gb103, 0, none⟩ (.int .i64 ((rd_T115 l0_0 x5_1).f0))).setCell ⟨gb103, 1, none⟩ (.int .i64 ((rd_T115 l0_0 x5_1).f1))).setCell ⟨gb103, 2, none⟩ (.int .i64 ((rd_T115 l0_0 x5_1).f2))).setCell ⟨gb103, 3, none⟩ (.int .i64 ((rd_T115 l0_0 x5_1).f3)))).cell? _ = some _ from hx104_0)); clear hn104_0; clear hn104_1; clear hn104_2; clear hn104_3; replace p104 := eq_true p104; replace q104 := eq_true q104; have p105 : 0 ≤ (((rd_T115 l0_0 x5_1).f2) : Int) := of_decide_eq_true qz0_; have q105 : ((rd_T115 l0_0 x5_1).f2) < (l1.length : Int) := of_decide_eq_true qz0_; obtain ⟨ad105, e105, hx105_0⟩ := Kd.at_int HR1.out ((rd_T115 l0_0 x5_1).f2) p105 q105; obtain rfl : ad104 = ad105 := (by injection e105); have hn105_0 : ad104.block ≠ gb103 := Nat.ne_of_lt (Nat.lt_of_lt_of_le qz31_ GW103.out); have hn105_1 : ad104.block ≠ gb103 := Nat.ne_of_lt (Nat.lt_of_lt_of_le qz31_ GW103.out); have hn105_2 : ad104.block ≠ gb103 := Nat.ne_of_lt (Nat.lt_of_lt_of_le qz31_ GW103.out); have hn105_3 : ad104.block ≠ gb103 := Nat.ne_of_lt (Nat.lt_of_lt_of_le qz31_ GW103.out); replace hx105_0 := (HB.out.cell (World.block_lt_of_cell? w _ hx105_0)).trans hx105_0; replace hx105_0 := (cell_far (p := ⟨gb103, 0, none⟩) qz32_ (.int .i64 ((rd_T115 l0_0 x5_1).f0))).trans hx105_0; replace hx105_0 := (cell_far (p := ⟨gb103, 1, none⟩) qz33_ (.int .i64 ((rd_T115 l0_0 x5_1).f1))).trans hx105_0; replace hx105_0 := (cell_far (p := ⟨gb103, 2, none⟩) qz34_ (.int .i64 ((rd_T115 l0_0 x5_1).f2))).trans hx105_0; replace hx105_0 := (cell_far (p := ⟨gb103, 3, none⟩) qz35_ (.int .i64 ((rd_T115 l0_0 x5_1).f3))).trans hx105_0; (try have hy105_0 := fun (n_ : Nat) => (show ((((((w19.drewN n_).setCell ⟨gb103, 0, none⟩ (.int .i64 ((rd_T115 l0_0 x5_1).f0))).setCell ⟨gb103, 1, none⟩ (.int .i64 ((rd_T115 l0_0 x5_1).f1))).setCell ⟨gb103, 2, none⟩ (.int .i64 ((rd_T115 l0_0 x5_1).f2))).setCell ⟨gb103, 3, none⟩ (.int .i64 ((rd_T115 l0_0 x5_1).f3)))).cell? _ = some _ from hx105_0)); clear hn105_0; clear hn105_1; clear hn105_2; clear hn105_3; replace p105 := eq_true p105; replace q105 := eq_true q105; have p106 : 0 ≤ (((rd_T115 l0_0 x5_1).f1) : Int) := of_decide_eq_true qz0_; have q106 : ((rd_T115 l0_0 x5_1).f1) < (l1.length : Int) := of_decide_eq_true qz0_; obtain ⟨ad106, e106, hx106_0⟩ := Kd.at_int HR1.out ((rd_T115 l0_0 x5_1).f1) p106 q106; obtain rfl : ad104 = ad106 := (by injection e106); have hn106_0 : ad104.block ≠ gb103 := Nat.ne_of_lt (Nat.lt_of_lt_of_le qz36_ GW103.out); have hn106_1 : ad104.block ≠ gb103 := Nat.ne_of_lt (Nat.lt_of_lt_of_le qz36_ GW103.out); have hn106_2 : ad104.block ≠ gb103 := Nat.ne_of_lt (Nat.lt_of_lt_of_le qz36_ GW103.out); have hn106_3 : ad104.block ≠ gb103 := Nat.ne_of_lt (Nat.lt_of_lt_of_le qz36_ GW103.out); replace hx106_0 := (HB.out.cell (World.block_lt_of_cell? w _ hx106_0)).trans hx106_0; replace hx106_0 := (cell_far (p := ⟨gb103, 0, none⟩) qz37_ (.int .i64 ((rd_T115 l0_0 x5_1).f0))).trans hx106_0; replace hx106_0 := (cell_far (p := ⟨gb103, 1, none⟩) qz38_ (.int .i64 ((rd_T115 l0_0 x5_1).f1))).trans hx106_0; replace hx106_0 := (cell_far (p := ⟨gb103, 2, none⟩) qz39_ (.int .i64 ((rd_T115 l0_0 x5_1).f2))).trans hx106_0; replace hx106_0 := (cell_far (p := ⟨gb103, 3, none⟩) qz40_ (.int .i64 ((rd_T115 l0_0 x5_1).f3))).trans hx106_0; (try have hy106_0 := fun (n_ : Nat) => (show ((((((w19.drewN n_).setCell ⟨gb103, 0, none⟩ (.int .i64 ((rd_T115 l0_0 x5_1).f0))).setCell ⟨gb103, 1, none⟩ (.int .i64 ((rd_T115 l0_0 x5_1).f1))).setCell ⟨gb103, 2, none⟩ (.int .i64 ((rd_T115 l0_0 x5_1).f2))).setCell ⟨gb103, 3, none⟩ (.int .i64 ((rd_T115 l0_0 x5_1).f3)))).cell? _ = some _ from hx106_0)); clear hn106_0; clear hn106_1; clear hn106_2; clear hn106_3; replace p106 := eq_true p106; replace q106 := eq_true q106)); try go_wp2_with (first | ((with_reducible refine gate_dst (N := 6) rfl ?_); refine box_event ?hg (N := 6) ?hd (cs := #[.int .i64 0, .int .i64 0, .int .i64 0, .int .i64 0]) (t := 115) ?hr ?_; (case hd => rfl); (case hg => rfl); (case hr => first | (go_simp; done) | (go_simp; rfl)); intro gb103 hg w19 hbox hb; have n0_ := Aside0.mk (blk_below (g := gb101) (o := .cells #[.slice (some ad102) l0_0.length c0_0] 63 (0, 0)) qz5_ hb); have n1_ := Aside0.mk (below_step qz6_ hb); have n2_ := Aside0.mk (hbox); have n3_ := Aside0.mk ((by rw [hg]; exact (below_size qz6_) : w.heap.size ≤ gb103)); have n4_ := Aside0.mk ((by rw [hg]; exact (below_size qz6_) : w.heap.size ≤ gb103)); have n5_ := Aside0.mk ((by rw [hg]; exact Nat.ne_of_lt (blk_lt (g := gb101) (o := .cells #[.slice (some ad102) l0_0.length c0_0] 63 (0, 0)) qz5_) : gb101 ≠ gb103)); have n6_ := Aside0.mk ((by rw [hg]; exact Nat.ne_of_gt (blk_lt (g := gb101) (o := .cells #[.slice (some ad102) l0_0.length c0_0] 63 (0, 0)) qz5_) : gb103 ≠ gb101)); clear BK101; clear HB; have BK101 := n0_; have HB := n1_; have BK103 := n2_; have GW103 := n3_; have GE103 := n4_; have NB101_103 := n5_; have NB103_101 := n6_; clear n0_ n1_ n2_ n3_ n4_ n5_ n6_; clear hb hbox hg; have hnb20 := NB103_101.out; have hnc20 := NB101_103.out; have hcz21_0 : w19.cell? ⟨gb103, 0, none⟩ = some (.int .i64 0) := (blk_cell BK103.out 0).trans rfl; have hcz21_1 : w19.cell? ⟨gb103, 1, none⟩ = some (.int .i64 0) := (blk_cell BK103.out 1).trans rfl; have hcz21_2 : w19.cell? ⟨gb103, 2, none⟩ = some (.int .i64 0) := (blk_cell BK103.out 2).trans rfl; have hcz21_3 : w19.cell? ⟨gb103, 3, none⟩ = some (.int .i64 0) := (blk_cell BK103.out 3).trans rfl; have hfz21_0 := blk_frozen BK103.out 0; have hfz21_1 := blk_frozen BK103.out 1; have hfz21_2 := blk_frozen BK103.out 2; have hfz21_3 := blk_frozen BK103.out 3; have p104 : 0 ≤ (((rd_T115 l0_0 x5_1).f1) : Int) := of_decide_eq_true qz0_; have q104 : ((rd_T115 l0_0 x5_1).f1) < (l1.length : Int) := of_decide_eq_true qz0_; obtain ⟨ad104, e104, hx104_0⟩ := Kd.at_int HR1.out ((rd_T115 l0_0 x5_1).f1) p104 q104; cases e104; have hn104_0 : ad104.block ≠ gb103 := Nat.ne_of_lt (Nat.lt_of_lt_of_le qz26_ GW103.out); have hn104_1 : ad104.block ≠ gb103 := Nat.ne_of_lt (Nat.lt_of_lt_of_le qz26_ GW103.out); have hn104_2 : ad104.block ≠ gb103 := Nat.ne_of_lt (Nat.lt_of_lt_of_le qz26_ GW103.out); have hn104_3 : ad104.block ≠ gb103 := Nat.ne_of_lt (Nat.lt_of_lt_of_le qz26_ GW103.out); replace hx104_0 := (HB.out.cell (World.block_lt_of_cell? w _ hx104_0)).trans hx104_0; replace hx104_0 := (cell_far (p := ⟨gb103, 0, none⟩) qz27_ (.int .i64 ((rd_T115 l0_0 x5_1).f0))).trans hx104_0; replace hx104_0 := (cell_far (p := ⟨gb103, 1, none⟩) qz28_ (.int .i64 ((rd_T115 l0_0 x5_1).f1))).trans hx104_0; replace hx104_0 := (cell_far (p := ⟨gb103, 2, none⟩) qz29_ (.int .i64 ((rd_T115 l0_0 x5_1).f2))).trans hx104_0; replace hx104_0 := (cell_far (p := ⟨gb103, 3, none⟩) qz30_ (.int .i64 ((rd_T115 l0_0 x5_1).f3))).trans hx104_0; (try have hy104_0 := fun (n_ : Nat) => (show ((((((w19.drewN n_).setCell ⟨gb103, 0, none⟩ (.int .i64 ((rd_T115 l0_0 x5_1).f0))).setCell ⟨gb103, 1, none⟩ (.int .i64 ((rd_T115 l0_0 x5_1).f1))).setCell ⟨gb103, 2, none⟩ (.int .i64 ((rd_T115 l0_0 x5_1).f2))).setCell ⟨gb103, 3, none⟩ (.int .i64 ((rd_T115 l0_0 x5_1).f3)))).cell? _ = some _ from hx104_0)); clear hn104_0; clear hn104_1; clear hn104_2; clear hn104_3; replace p104 := eq_true p104; replace q104 := eq_true q104; have p105 : 0 ≤ (((rd_T115 l0_0 x5_1).f2) : Int) := of_decide_eq_true qz0_; have q105 : ((rd_T115 l0_0 x5_1).f2) < (l1.length : Int) := of_decide_eq_true qz0_; obtain ⟨ad105, e105, hx105_0⟩ := Kd.at_int HR1.out ((rd_T115 l0_0 x5_1).f2) p105 q105; obtain rfl : ad104 = ad105 := (by injection e105); have hn105_0 : ad104.block ≠ gb103 := Nat.ne_of_lt (Nat.lt_of_lt_of_le qz31_ GW103.out); have hn105_1 : ad104.block ≠ gb103 := Nat.ne_of_lt (Nat.lt_of_lt_of_le qz31_ GW103.out); have hn105_2 : ad104.block ≠ gb103 := Nat.ne_of_lt (Nat.lt_of_lt_of_le qz31_ GW103.out); have hn105_3 : ad104.block ≠ gb103 := Nat.ne_of_lt (Nat.lt_of_lt_of_le qz31_ GW103.out); replace hx105_0 := (HB.out.cell (World.block_lt_of_cell? w _ hx105_0)).trans hx105_0; replace hx105_0 := (cell_far (p := ⟨gb103, 0, none⟩) qz32_ (.int .i64 ((rd_T115 l0_0 x5_1).f0))).trans hx105_0; replace hx105_0 := (cell_far (p := ⟨gb103, 1, none⟩) qz33_ (.int .i64 ((rd_T115 l0_0 x5_1).f1))).trans hx105_0; replace hx105_0 := (cell_far (p := ⟨gb103, 2, none⟩) qz34_ (.int .i64 ((rd_T115 l0_0 x5_1).f2))).trans hx105_0; replace hx105_0 := (cell_far (p := ⟨gb103, 3, none⟩) qz35_ (.int .i64 ((rd_T115 l0_0 x5_1).f3))).trans hx105_0; (try have hy105_0 := fun (n_ : Nat) => (show ((((((w19.drewN n_).setCell ⟨gb103, 0, none⟩ (.int .i64 ((rd_T115 l0_0 x5_1).f0))).setCell ⟨gb103, 1, none⟩ (.int .i64 ((rd_T115 l0_0 x5_1).f1))).setCell ⟨gb103, 2, none⟩ (.int .i64 ((rd_T115 l0_0 x5_1).f2))).setCell ⟨gb103, 3, none⟩ (.int .i64 ((rd_T115 l0_0 x5_1).f3)))).cell? _ = some _ from hx105_0)); clear hn105_0; clear hn105_1; clear hn105_2; clear hn105_3; replace p105 := eq_true p105; replace q105 := eq_true q105; have p106 : 0 ≤ (((rd_T115 l0_0 x5_1).f1) : Int) := of_decide_eq_true qz0_; have q106 : ((rd_T115 l0_0 x5_1).f1) < (l1.length : Int) := of_decide_eq_true qz0_; obtain ⟨ad106, e106, hx106_0⟩ := Kd.at_int HR1.out ((rd_T115 l0_0 x5_1).f1) p106 q106; obtain rfl : ad104 = ad106 := (by injection e106); have hn106_0 : ad104.block ≠ gb103 := Nat.ne_of_lt (Nat.lt_of_lt_of_le qz36_ GW103.out); have hn106_1 : ad104.block ≠ gb103 := Nat.ne_of_lt (Nat.lt_of_lt_of_le qz36_ GW103.out); have hn106_2 : ad104.block ≠ gb103 := Nat.ne_of_lt (Nat.lt_of_lt_of_le qz36_ GW103.out); have hn106_3 : ad104.block ≠ gb103 := Nat.ne_of_lt (Nat.lt_of_lt_of_le qz36_ GW103.out); replace hx106_0 := (HB.out.cell (World.block_lt_of_cell? w _ hx106_0)).trans hx106_0; replace hx106_0 := (cell_far (p := ⟨gb103, 0, none⟩) qz37_ (.int .i64 ((rd_T115 l0_0 x5_1).f0))).trans hx106_0; replace hx106_0 := (cell_far (p := ⟨gb103, 1, none⟩) qz38_ (.int .i64 ((rd_T115 l0_0 x5_1).f1))).trans hx106_0; replace hx106_0 := (cell_far (p := ⟨gb103, 2, none⟩) qz39_ (.int .i64 ((rd_T115 l0_0 x5_1).f2))).trans hx106_0; replace hx106_0 := (cell_far (p := ⟨gb103, 3, none⟩) qz40_ (.int .i64 ((rd_T115 l0_0 x5_1).f3))).trans hx106_0; (try have hy106_0 := fun (n_ : Nat) => (show ((((((w19.drewN n_).setCell ⟨gb103, 0, none⟩ (.int .i64 ((rd_T115 l0_0 x5_1).f0))).setCell ⟨gb103, 1, none⟩ (.int .i64 ((rd_T115 l0_0 x5_1).f1))).setCell ⟨gb103, 2, none⟩ (.int .i64 ((rd_T115 l0_0 x5_1).f2))).setCell ⟨gb103, 3, none⟩ (.int .i64 ((rd_T115 l0_0 x5_1).f3)))).cell? _ = some _ from hx106_0)); clear hn106_0; clear hn106_1; clear hn106_2; clear hn106_3; replace p106 := eq_true p106; replace q106 := eq_true q106)))
                          go_roundg k1
                          case measure => have := HK1.out; omega
                          case rel => exact ⟨(wrap64 (x5_1 + 1)), qz2_, H', ⟨by have := HK1.out; omega⟩, ⟨by (with_reducible repeat (first | refine blk_drewN ?_ _ | refine blk_drew ?_ | refine blk_alloc ?_ _)); refine blk_far ?_ NB101_103.out _; (with_reducible repeat (first | refine blk_drewN ?_ _ | refine blk_drew ?_ | refine blk_alloc ?_ _)); refine blk_far ?_ NB101_103.out _; (with_reducible repeat (first | refine blk_drewN ?_ _ | refine blk_drew ?_ | refine blk_alloc ?_ _)); refine blk_far ?_ NB101_103.out _; (with_reducible repeat (first | refine blk_drewN ?_ _ | refine blk_drew ?_ | refine blk_alloc ?_ _)); refine blk_far ?_ NB101_103.out _; (with_reducible repeat (first | refine blk_drewN ?_ _ | refine blk_drew ?_ | refine blk_alloc ?_ _)); exact BK101.out⟩, ⟨by repeat (first | (with_reducible first | exact HB.out | apply below_alloc | apply pw_below_drewN | apply below_drew1 | refine below_set ?_ GE101.out | refine below_set ?_ GE103.out) | exact HB.out)⟩⟩
                      · rw [if_neg c12] at H
                        have c12b0 : (((rd_T115 l0_0 x5_1).f0) == 8) = false := beq_eq_false_iff_ne.mpr c12
                        have c12b1 : (((rd_T115 l0_0 x5_1).f0) != 8) = true := bne_iff_ne.mpr c12
                        have H' := Aside0.mk H
                        clear H
                        have hcz22_0 : wr.cell? ⟨gb101, 0, none⟩ = some (.slice A0_0 l0_0.length c0_0) := (blk_cell BK101.out 0).trans rfl
                        have hfz22_0 := blk_frozen BK101.out 0
                        have p102 : 0 ≤ (x5_1 : Int) := of_decide_eq_true qz0_
                        have q102 : x5_1 < (l0_0.length : Int) := of_decide_eq_true qz0_
                        obtain ⟨ad102, e102, hx102_0, hx102_1, hx102_2, hx102_3⟩ := at_T115 HR0_0.out x5_1 p102 q102
                        cases e102
                        replace hx102_0 := (HB.out.cell (World.block_lt_of_cell? w _ hx102_0)).trans hx102_0
                        replace hx102_1 := (HB.out.cell (World.block_lt_of_cell? w _ hx102_1)).trans hx102_1
                        replace hx102_2 := (HB.out.cell (World.block_lt_of_cell? w _ hx102_2)).trans hx102_2
                        replace hx102_3 := (HB.out.cell (World.block_lt_of_cell? w _ hx102_3)).trans hx102_3
                        replace p102 := eq_true p102
                        replace q102 := eq_true q102
                        go_wp2_with (first | ((with_reducible refine gate_dst (N := 6) rfl ?_); refine box_event ?hg (N := 6) ?hd (cs := #[.int .i64 0, .int .i64 0, .int .i64 0, .int .i64 0]) (t := 115) ?hr ?_; (case hd => rfl); (case hg => rfl); (case hr => first | (go_simp; done) | (go_simp; rfl)); intro gb103 hg w23 hbox hb; have n0_ := Aside0.mk (blk_below (g := gb101) (o := .cells #[.slice (some ad102) l0_0.length c0_0] 63 (0, 0)) qz5_ hb); have n1_ := Aside0.mk (below_step qz6_ hb); have n2_ := Aside0.mk (hbox); have n3_ := Aside0.mk ((by rw [hg]; exact (below_size qz6_) : w.heap.size ≤ gb103)); have n4_ := Aside0.mk ((by rw [hg]; exact (below_size qz6_) : w.heap.size ≤ gb103)); have n5_ := Aside0.mk ((by rw [hg]; exact Nat.ne_of_lt (blk_lt (g := gb101) (o := .cells #[.slice (some ad102) l0_0.length c0_0] 63 (0, 0)) qz5_) : gb101 ≠ gb103)); have n6_ := Aside0.mk ((by rw [hg]; exact Nat.ne_of_gt (blk_lt (g := gb101) (o := .cells #[.slice (some ad102) l0_0.length c0_0] 63 (0, 0)) qz5_) : gb103 ≠ gb101)); clear BK101; clear HB; have BK101 := n0_; have HB := n1_; have BK103 := n2_; have GW103 := n3_; have GE103 := n4_; have NB101_103 := n5_; have NB103_101 := n6_; clear n0_ n1_ n2_ n3_ n4_ n5_ n6_; clear hb hbox hg; have hnb24 := NB103_101.out; have hnc24 := NB101_103.out; have hcz25_0 : w23.cell? ⟨gb103, 0, none⟩ = some (.int .i64 0) := (blk_cell BK103.out 0).trans rfl; have hcz25_1 : w23.cell? ⟨gb103, 1, none⟩ = some (.int .i64 0) := (blk_cell BK103.out 1).trans rfl; have hcz25_2 : w23.cell? ⟨gb103, 2, none⟩ = some (.int .i64 0) := (blk_cell BK103.out 2).trans rfl; have hcz25_3 : w23.cell? ⟨gb103, 3, none⟩ = some (.int .i64 0) := (blk_cell BK103.out 3).trans rfl; have hfz25_0 := blk_frozen BK103.out 0; have hfz25_1 := blk_frozen BK103.out 1; have hfz25_2 := blk_frozen BK103.out 2; have hfz25_3 := blk_frozen BK103.out 3; have p104 : 0 ≤ (((rd_T115 l0_0 x5_1).f1) : Int) := of_decide_eq_true qz0_; have q104 : ((rd_T115 l0_0 x5_1).f1) < (l1.length : Int) := of_decide_eq_true qz0_; obtain ⟨ad104, e104, hx104_0⟩ := Kd.at_int HR1.out ((rd_T115 l0_0 x5_1).f1) p104 q104; cases e104; have hn104_0 : ad104.block ≠ gb103 := Nat.ne_of_lt (Nat.lt_of_lt_of_le qz26_ GW103.out); have hn104_1 : ad104.block ≠ gb103 := Nat.ne_of_lt (Nat.lt_of_lt_of_le qz26_ GW103.out); have hn104_2 : ad104.block ≠ gb103 := Nat.ne_of_lt (Nat.lt_of_lt_of_le qz26_ GW103.out); have hn104_3 : ad104.block ≠ gb103 := Nat.ne_of_lt (Nat.lt_of_lt_of_le qz26_ GW103.out); replace hx104_0 := (HB.out.cell (World.block_lt_of_cell? w _ hx104_0)).trans hx104_0; replace hx104_0 := (cell_far (p := ⟨gb103, 0, none⟩) qz27_ (.int .i64 ((rd_T115 l0_0 x5_1).f0))).trans hx104_0; replace hx104_0 := (cell_far (p := ⟨gb103, 1, none⟩) qz28_ (.int .i64 ((rd_T115 l0_0 x5_1).f1))).trans hx104_0; replace hx104_0 := (cell_far (p := ⟨gb103, 2, none⟩) qz29_ (.int .i64 ((rd_T115 l0_0 x5_1).f2))).trans hx104_0; replace hx104_0 := (cell_far (p := ⟨gb103, 3, none⟩) qz30_ (.int .i64 ((rd_T115 l0_0 x5_1).f3))).trans hx104_0; (try have hy104_0 := fun (n_ : Nat) => (show ((((((w23.drewN n_).setCell ⟨gb103, 0, none⟩ (.int .i64 ((rd_T115 l0_0 x5_1).f0))).setCell ⟨gb103, 1, none⟩ (.int .i64 ((rd_T115 l0_0 x5_1).f1))).setCell ⟨gb103, 2, none⟩ (.int .i64 ((rd_T115 l0_0 x5_1).f2))).setCell ⟨gb103, 3, none⟩ (.int .i64 ((rd_T115 l0_0 x5_1).f3)))).cell? _ = some _ from hx104_0)); clear hn104_0; clear hn104_1; clear hn104_2; clear hn104_3; replace p104 := eq_true p104; replace q104 := eq_true q104; have p105 : 0 ≤ (((rd_T115 l0_0 x5_1).f2) : Int) := of_decide_eq_true qz0_; have q105 : ((rd_T115 l0_0 x5_1).f2) < (l1.length : Int) := of_decide_eq_true qz0_; obtain ⟨ad105, e105, hx105_0⟩ := Kd.at_int HR1.out ((rd_T115 l0_0 x5_1).f2) p105 q105; obtain rfl : ad104 = ad105 := (by injection e105); have hn105_0 : ad104.block ≠ gb103 := Nat.ne_of_lt (Nat.lt_of_lt_of_le qz31_ GW103.out); have hn105_1 : ad104.block ≠ gb103 := Nat.ne_of_lt (Nat.lt_of_lt_of_le qz31_ GW103.out); have hn105_2 : ad104.block ≠ gb103 := Nat.ne_of_lt (Nat.lt_of_lt_of_le qz31_ GW103.out); have hn105_3 : ad104.block ≠ gb103 := Nat.ne_of_lt (Nat.lt_of_lt_of_le qz31_ GW103.out); replace hx105_0 := (HB.out.cell (World.block_lt_of_cell? w _ hx105_0)).trans hx105_0; replace hx105_0 := (cell_far (p := ⟨gb103, 0, none⟩) qz32_ (.int .i64 ((rd_T115 l0_0 x5_1).f0))).trans hx105_0; replace hx105_0 := (cell_far (p := ⟨gb103, 1, none⟩) qz33_ (.int .i64 ((rd_T115 l0_0 x5_1).f1))).trans hx105_0; replace hx105_0 := (cell_far (p := ⟨gb103, 2, none⟩) qz34_ (.int .i64 ((rd_T115 l0_0 x5_1).f2))).trans hx105_0; replace hx105_0 := (cell_far (p := ⟨gb103, 3, none⟩) qz35_ (.int .i64 ((rd_T115 l0_0 x5_1).f3))).trans hx105_0; (try have hy105_0 := fun (n_ : Nat) => (show ((((((w23.drewN n_).setCell ⟨gb103, 0, none⟩ (.int .i64 ((rd_T115 l0_0 x5_1).f0))).setCell ⟨gb103, 1, none⟩ (.int .i64 ((rd_T115 l0_0 x5_1).f1))).setCell ⟨gb103, 2, none⟩ (.int .i64 ((rd_T115 l0_0 x5_1).f2))).setCell ⟨gb103, 3, none⟩ (.int .i64 ((rd_T115 l0_0 x5_1).f3)))).cell? _ = some _ from hx105_0)); clear hn105_0; clear hn105_1; clear hn105_2; clear hn105_3; replace p105 := eq_true p105; replace q105 := eq_true q105))
                        repeat (go_quiet (first | ((with_reducible refine gate_dst (N := 6) rfl ?_); refine box_event ?hg (N := 6) ?hd (cs := #[.int .i64 0, .int .i64 0, .int .i64 0, .int .i64 0]) (t := 115) ?hr ?_; (case hd => rfl); (case hg => rfl); (case hr => first | (go_simp; done) | (go_simp; rfl)); intro gb103 hg w23 hbox hb; have n0_ := Aside0.mk (blk_below (g := gb101) (o := .cells #[.slice (some ad102) l0_0.length c0_0] 63 (0, 0)) qz5_ hb); have n1_ := Aside0.mk (below_step qz6_ hb); have n2_ := Aside0.mk (hbox); have n3_ := Aside0.mk ((by rw [hg]; exact (below_size qz6_) : w.heap.size ≤ gb103)); have n4_ := Aside0.mk ((by rw [hg]; exact (below_size qz6_) : w.heap.size ≤ gb103)); have n5_ := Aside0.mk ((by rw [hg]; exact Nat.ne_of_lt (blk_lt (g := gb101) (o := .cells #[.slice (some ad102) l0_0.length c0_0] 63 (0, 0)) qz5_) : gb101 ≠ gb103)); have n6_ := Aside0.mk ((by rw [hg]; exact Nat.ne_of_gt (blk_lt (g := gb101) (o := .cells #[.slice (some ad102) l0_0.length c0_0] 63 (0, 0)) qz5_) : gb103 ≠ gb101)); clear BK101; clear HB; have BK101 := n0_; have HB := n1_; have BK103 := n2_; have GW103 := n3_; have GE103 := n4_; have NB101_103 := n5_; have NB103_101 := n6_; clear n0_ n1_ n2_ n3_ n4_ n5_ n6_; clear hb hbox hg; have hnb24 := NB103_101.out; have hnc24 := NB101_103.out; have hcz25_0 : w23.cell? ⟨gb103, 0, none⟩ = some (.int .i64 0) := (blk_cell BK103.out 0).trans rfl; have hcz25_1 : w23.cell? ⟨gb103, 1, none⟩ = some (.int .i64 0) := (blk_cell BK103.out 1).trans rfl; have hcz25_2 : w23.cell? ⟨gb103, 2, none⟩ = some (.int .i64 0) := (blk_cell BK103.out 2).trans rfl; have hcz25_3 : w23.cell? ⟨gb103, 3, none⟩ = some (.int .i64 0) := (blk_cell BK103.out 3).trans rfl; have hfz25_0 := blk_frozen BK103.out 0; have hfz25_1 := blk_frozen BK103.out 1; have hfz25_2 := blk_frozen BK103.out 2; have hfz25_3 := blk_frozen BK103.out 3; have p104 : 0 ≤ (((rd_T115 l0_0 x5_1).f1) : Int) := of_decide_eq_true qz0_; have q104 : ((rd_T115 l0_0 x5_1).f1) < (l1.length : Int) := of_decide_eq_true qz0_; obtain ⟨ad104, e104, hx104_0⟩ := Kd.at_int HR1.out ((rd_T115 l0_0 x5_1).f1) p104 q104; cases e104; have hn104_0 : ad104.block ≠ gb103 := Nat.ne_of_lt (Nat.lt_of_lt_of_le qz26_ GW103.out); have hn104_1 : ad104.block ≠ gb103 := Nat.ne_of_lt (Nat.lt_of_lt_of_le qz26_ GW103.out); have hn104_2 : ad104.block ≠ gb103 := Nat.ne_of_lt (Nat.lt_of_lt_of_le qz26_ GW103.out); have hn104_3 : ad104.block ≠ gb103 := Nat.ne_of_lt (Nat.lt_of_lt_of_le qz26_ GW103.out); replace hx104_0 := (HB.out.cell (World.block_lt_of_cell? w _ hx104_0)).trans hx104_0; replace hx104_0 := (cell_far (p := ⟨gb103, 0, none⟩) qz27_ (.int .i64 ((rd_T115 l0_0 x5_1).f0))).trans hx104_0; replace hx104_0 := (cell_far (p := ⟨gb103, 1, none⟩) qz28_ (.int .i64 ((rd_T115 l0_0 x5_1).f1))).trans hx104_0; replace hx104_0 := (cell_far (p := ⟨gb103, 2, none⟩) qz29_ (.int .i64 ((rd_T115 l0_0 x5_1).f2))).trans hx104_0; replace hx104_0 := (cell_far (p := ⟨gb103, 3, none⟩) qz30_ (.int .i64 ((rd_T115 l0_0 x5_1).f3))).trans hx104_0; (try have hy104_0 := fun (n_ : Nat) => (show ((((((w23.drewN n_).setCell ⟨gb103, 0, none⟩ (.int .i64 ((rd_T115 l0_0 x5_1).f0))).setCell ⟨gb103, 1, none⟩ (.int .i64 ((rd_T115 l0_0 x5_1).f1))).setCell ⟨gb103, 2, none⟩ (.int .i64 ((rd_T115 l0_0 x5_1).f2))).setCell ⟨gb103, 3, none⟩ (.int .i64 ((rd_T115 l0_0 x5_1).f3)))).cell? _ = some _ from hx104_0)); clear hn104_0; clear hn104_1; clear hn104_2; clear hn104_3; replace p104 := eq_true p104; replace q104 := eq_true q104; have p105 : 0 ≤ (((rd_T115 l0_0 x5_1).f2) : Int) := of_decide_eq_true qz0_; have q105 : ((rd_T115 l0_0 x5_1).f2) < (l1.length : Int) := of_decide_eq_true qz0_; obtain ⟨ad105, e105, hx105_0⟩ := Kd.at_int HR1.out ((rd_T115 l0_0 x5_1).f2) p105 q105; obtain rfl : ad104 = ad105 := (by injection e105); have hn105_0 : ad104.block ≠ gb103 := Nat.ne_of_lt (Nat.lt_of_lt_of_le qz31_ GW103.out); have hn105_1 : ad104.block ≠ gb103 := Nat.ne_of_lt (Nat.lt_of_lt_of_le qz31_ GW103.out); have hn105_2 : ad104.block ≠ gb103 := Nat.ne_of_lt (Nat.lt_of_lt_of_le qz31_ GW103.out); have hn105_3 : ad104.block ≠ gb103 := Nat.ne_of_lt (Nat.lt_of_lt_of_le qz31_ GW103.out); replace hx105_0 := (HB.out.cell (World.block_lt_of_cell? w _ hx105_0)).trans hx105_0; replace hx105_0 := (cell_far (p := ⟨gb103, 0, none⟩) qz32_ (.int .i64 ((rd_T115 l0_0 x5_1).f0))).trans hx105_0; replace hx105_0 := (cell_far (p := ⟨gb103, 1, none⟩) qz33_ (.int .i64 ((rd_T115 l0_0 x5_1).f1))).trans hx105_0; replace hx105_0 := (cell_far (p := ⟨gb103, 2, none⟩) qz34_ (.int .i64 ((rd_T115 l0_0 x5_1).f2))).trans hx105_0; replace hx105_0 := (cell_far (p := ⟨gb103, 3, none⟩) qz35_ (.int .i64 ((rd_T115 l0_0 x5_1).f3))).trans hx105_0; (try have hy105_0 := fun (n_ : Nat) => (show ((((((w23.drewN n_).setCell ⟨gb103, 0, none⟩ (.int .i64 ((rd_T115 l0_0 x5_1).f0))).setCell ⟨gb103, 1, none⟩ (.int .i64 ((rd_T115 l0_0 x5_1).f1))).setCell ⟨gb103, 2, none⟩ (.int .i64 ((rd_T115 l0_0 x5_1).f2))).setCell ⟨gb103, 3, none⟩ (.int .i64 ((rd_T115 l0_0 x5_1).f3)))).cell? _ = some _ from hx105_0)); clear hn105_0; clear hn105_1; clear hn105_2; clear hn105_3; replace p105 := eq_true p105; replace q105 := eq_true q105)); try go_wp2_with (first | ((with_reducible refine gate_dst (N := 6) rfl ?_); refine box_event ?hg (N := 6) ?hd (cs := #[.int .i64 0, .int .i64 0, .int .i64 0, .int .i64 0]) (t := 115) ?hr ?_; (case hd => rfl); (case hg => rfl); (case hr => first | (go_simp; done) | (go_simp; rfl)); intro gb103 hg w23 hbox hb; have n0_ := Aside0.mk (blk_below (g := gb101) (o := .cells #[.slice (some ad102) l0_0.length c0_0] 63 (0, 0)) qz5_ hb); have n1_ := Aside0.mk (below_step qz6_ hb); have n2_ := Aside0.mk (hbox); have n3_ := Aside0.mk ((by rw [hg]; exact (below_size qz6_) : w.heap.size ≤ gb103)); have n4_ := Aside0.mk ((by rw [hg]; exact (below_size qz6_) : w.heap.size ≤ gb103)); have n5_ := Aside0.mk ((by rw [hg]; exact Nat.ne_of_lt (blk_lt (g := gb101) (o := .cells #[.slice (some ad102) l0_0.length c0_0] 63 (0, 0)) qz5_) : gb101 ≠ gb103)); have n6_ := Aside0.mk ((by rw [hg]; exact Nat.ne_of_gt (blk_lt (g := gb101) (o := .cells #[.slice (some ad102) l0_0.length c0_0] 63 (0, 0)) qz5_) : gb103 ≠ gb101)); clear BK101; clear HB; have BK101 := n0_; have HB := n1_; have BK103 := n2_; have GW103 := n3_; have GE103 := n4_; have NB101_103 := n5_; have NB103_101 := n6_; clear n0_ n1_ n2_ n3_ n4_ n5_ n6_; clear hb hbox hg; have hnb24 := NB103_101.out; have hnc24 := NB101_103.out; have hcz25_0 : w23.cell? ⟨gb103, 0, none⟩ = some (.int .i64 0) := (blk_cell BK103.out 0).trans rfl; have hcz25_1 : w23.cell? ⟨gb103, 1, none⟩ = some (.int .i64 0) := (blk_cell BK103.out 1).trans rfl; have hcz25_2 : w23.cell? ⟨gb103, 2, none⟩ = some (.int .i64 0) := (blk_cell BK103.out 2).trans rfl; have hcz25_3 : w23.cell? ⟨gb103, 3, none⟩ = some (.int .i64 0) := (blk_cell BK103.out 3).trans rfl; have hfz25_0 := blk_frozen BK103.out 0; have hfz25_1 := blk_frozen BK103.out 1; have hfz25_2 := blk_frozen BK103.out 2; have hfz25_3 := blk_frozen BK103.out 3; have p104 : 0 ≤ (((rd_T115 l0_0 x5_1).f1) : Int) := of_decide_eq_true qz0_; have q104 : ((rd_T115 l0_0 x5_1).f1) < (l1.length : Int) := of_decide_eq_true qz0_; obtain ⟨ad104, e104, hx104_0⟩ := Kd.at_int HR1.out ((rd_T115 l0_0 x5_1).f1) p104 q104; cases e104; have hn104_0 : ad104.block ≠ gb103 := Nat.ne_of_lt (Nat.lt_of_lt_of_le qz26_ GW103.out); have hn104_1 : ad104.block ≠ gb103 := Nat.ne_of_lt (Nat.lt_of_lt_of_le qz26_ GW103.out); have hn104_2 : ad104.block ≠ gb103 := Nat.ne_of_lt (Nat.lt_of_lt_of_le qz26_ GW103.out); have hn104_3 : ad104.block ≠ gb103 := Nat.ne_of_lt (Nat.lt_of_lt_of_le qz26_ GW103.out); replace hx104_0 := (HB.out.cell (World.block_lt_of_cell? w _ hx104_0)).trans hx104_0; replace hx104_0 := (cell_far (p := ⟨gb103, 0, none⟩) qz27_ (.int .i64 ((rd_T115 l0_0 x5_1).f0))).trans hx104_0; replace hx104_0 := (cell_far (p := ⟨gb103, 1, none⟩) qz28_ (.int .i64 ((rd_T115 l0_0 x5_1).f1))).trans hx104_0; replace hx104_0 := (cell_far (p := ⟨gb103, 2, none⟩) qz29_ (.int .i64 ((rd_T115 l0_0 x5_1).f2))).trans hx104_0; replace hx104_0 := (cell_far (p := ⟨gb103, 3, none⟩) qz30_ (.int .i64 ((rd_T115 l0_0 x5_1).f3))).trans hx104_0; (try have hy104_0 := fun (n_ : Nat) => (show ((((((w23.drewN n_).setCell ⟨gb103, 0, none⟩ (.int .i64 ((rd_T115 l0_0 x5_1).f0))).setCell ⟨gb103, 1, none⟩ (.int .i64 ((rd_T115 l0_0 x5_1).f1))).setCell ⟨gb103, 2, none⟩ (.int .i64 ((rd_T115 l0_0 x5_1).f2))).setCell ⟨gb103, 3, none⟩ (.int .i64 ((rd_T115 l0_0 x5_1).f3)))).cell? _ = some _ from hx104_0)); clear hn104_0; clear hn104_1; clear hn104_2; clear hn104_3; replace p104 := eq_true p104; replace q104 := eq_true q104; have p105 : 0 ≤ (((rd_T115 l0_0 x5_1).f2) : Int) := of_decide_eq_true qz0_; have q105 : ((rd_T115 l0_0 x5_1).f2) < (l1.length : Int) := of_decide_eq_true qz0_; obtain ⟨ad105, e105, hx105_0⟩ := Kd.at_int HR1.out ((rd_T115 l0_0 x5_1).f2) p105 q105; obtain rfl : ad104 = ad105 := (by injection e105); have hn105_0 : ad104.block ≠ gb103 := Nat.ne_of_lt (Nat.lt_of_lt_of_le qz31_ GW103.out); have hn105_1 : ad104.block ≠ gb103 := Nat.ne_of_lt (Nat.lt_of_lt_of_le qz31_ GW103.out); have hn105_2 : ad104.block ≠ gb103 := Nat.ne_of_lt (Nat.lt_of_lt_of_le qz31_ GW103.out); have hn105_3 : ad104.block ≠ gb103 := Nat.ne_of_lt (Nat.lt_of_lt_of_le qz31_ GW103.out); replace hx105_0 := (HB.out.cell (World.block_lt_of_cell? w _ hx105_0)).trans hx105_0; replace hx105_0 := (cell_far (p := ⟨gb103, 0, none⟩) qz32_ (.int .i64 ((rd_T115 l0_0 x5_1).f0))).trans hx105_0; replace hx105_0 := (cell_far (p := ⟨gb103, 1, none⟩) qz33_ (.int .i64 ((rd_T115 l0_0 x5_1).f1))).trans hx105_0; replace hx105_0 := (cell_far (p := ⟨gb103, 2, none⟩) qz34_ (.int .i64 ((rd_T115 l0_0 x5_1).f2))).trans hx105_0; replace hx105_0 := (cell_far (p := ⟨gb103, 3, none⟩) qz35_ (.int .i64 ((rd_T115 l0_0 x5_1).f3))).trans hx105_0; (try have hy105_0 := fun (n_ : Nat) => (show ((((((w23.drewN n_).setCell ⟨gb103, 0, none⟩ (.int .i64 ((rd_T115 l0_0 x5_1).f0))).setCell ⟨gb103, 1, none⟩ (.int .i64 ((rd_T115 l0_0 x5_1).f1))).setCell ⟨gb103, 2, none⟩ (.int .i64 ((rd_T115 l0_0 x5_1).f2))).setCell ⟨gb103, 3, none⟩ (.int .i64 ((rd_T115 l0_0 x5_1).f3)))).cell? _ = some _ from hx105_0)); clear hn105_0; clear hn105_1; clear hn105_2; clear hn105_3; replace p105 := eq_true p105; replace q105 := eq_true q105)))
                        go_roundg k1
                        case measure => have := HK1.out; omega
                        case rel => exact ⟨(wrap64 (x5_1 + 1)), qz2_, H', ⟨by have := HK1.out; omega⟩, ⟨by (with_reducible repeat (first | refine blk_drewN ?_ _ | refine blk_drew ?_ | refine blk_alloc ?_ _)); refine blk_far ?_ NB101_103.out _; (with_reducible repeat (first | refine blk_drewN ?_ _ | refine blk_drew ?_ | refine blk_alloc ?_ _)); refine blk_far ?_ NB101_103.out _; (with_reducible repeat (first | refine blk_drewN ?_ _ | refine blk_drew ?_ | refine blk_alloc ?_ _)); refine blk_far ?_ NB101_103.out _; (with_reducible repeat (first | refine blk_drewN ?_ _ | refine blk_drew ?_ | refine blk_alloc ?_ _)); refine blk_far ?_ NB101_103.out _; (with_reducible repeat (first | refine blk_drewN ?_ _ | refine blk_drew ?_ | refine blk_alloc ?_ _)); exact BK101.out⟩, ⟨by repeat (first | (with_reducible first | exact HB.out | apply below_alloc | apply pw_below_drewN | apply below_drew1 | refine below_set ?_ GE101.out | refine below_set ?_ GE103.out) | exact HB.out)⟩⟩
                    · rw [if_neg c11] at H
                      have c11b0 : ((rd l1 ((rd_T115 l0_0 x5_1).f1)) == (rd l1 ((rd_T115 l0_0 x5_1).f2))) = false := beq_eq_false_iff_ne.mpr c11
                      have c11b1 : ((rd l1 ((rd_T115 l0_0 x5_1).f1)) != (rd l1 ((rd_T115 l0_0 x5_1).f2))) = true := bne_iff_ne.mpr c11
                      obtain rfl := Option.some.inj H
                      have hcz26_0 : wr.cell? ⟨gb101, 0, none⟩ = some (.slice A0_0 l0_0.length c0_0) := (blk_cell BK101.out 0).trans rfl
                      have hfz26_0 := blk_frozen BK101.out 0
                      have p102 : 0 ≤ (x5_1 : Int) := of_decide_eq_true qz0_
                      have q102 : x5_1 < (l0_0.length : Int) := of_decide_eq_true qz0_
                      obtain ⟨ad102, e102, hx102_0, hx102_1, hx102_2, hx102_3⟩ := at_T115 HR0_0.out x5_1 p102 q102
                      cases e102
                      replace hx102_0 := (HB.out.cell (World.block_lt_of_cell? w _ hx102_0)).trans hx102_0
                      replace hx102_1 := (HB.out.cell (World.block_lt_of_cell? w _ hx102_1)).trans hx102_1
                      replace hx102_2 := (HB.out.cell (World.block_lt_of_cell? w _ hx102_2)).trans hx102_2
                      replace hx102_3 := (HB.out.cell (World.block_lt_of_cell? w _ hx102_3)).trans hx102_3
                      replace p102 := eq_true p102
                      replace q102 := eq_true q102
                      go_wp2_with (first | ((with_reducible refine gate_dst (N := 6) rfl ?_); refine box_event ?hg (N := 6) ?hd (cs := #[.int .i64 0, .int .i64 0, .int .i64 0, .int .i64 0]) (t := 115) ?hr ?_; (case hd => rfl); (case hg => rfl); (case hr => first | (go_simp; done) | (go_simp; rfl)); intro gb103 hg w27 hbox hb; have n0_ := Aside0.mk (blk_below (g := gb101) (o := .cells #[.slice (some ad102) l0_0.length c0_0] 63 (0, 0)) qz5_ hb); have n1_ := Aside0.mk (below_step qz6_ hb); have n2_ := Aside0.mk (hbox); have n3_ := Aside0.mk ((by rw [hg]; exact (below_size qz6_) : w.heap.size ≤ gb103)); have n4_ := Aside0.mk ((by rw [hg]; exact (below_size qz6_) : w.heap.size ≤ gb103)); have n5_ := Aside0.mk ((by rw [hg]; exact Nat.ne_of_lt (blk_lt (g := gb101) (o := .cells #[.slice (some ad102) l0_0.length c0_0] 63 (0, 0)) qz5_) : gb101 ≠ gb103)); have n6_ := Aside0.mk ((by rw [hg]; exact Nat.ne_of_gt (blk_lt (g := gb101) (o := .cells #[.slice (some ad102) l0_0.length c0_0] 63 (0, 0)) qz5_) : gb103 ≠ gb101)); clear BK101; clear HB; have BK101 := n0_; have HB := n1_; have BK103 := n2_; have GW103 := n3_; have GE103 := n4_; have NB101_103 := n5_; have NB103_101 := n6_; clear n0_ n1_ n2_ n3_ n4_ n5_ n6_; clear hb hbox hg; have hnb28 := NB103_101.out; have hnc28 := NB101_103.out; have hcz29_0 : w27.cell? ⟨gb103, 0, none⟩ = some (.int .i64 0) := (blk_cell BK103.out 0).trans rfl; have hcz29_1 : w27.cell? ⟨gb103, 1, none⟩ = some (.int .i64 0) := (blk_cell BK103.out 1).trans rfl; have hcz29_2 : w27.cell? ⟨gb103, 2, none⟩ = some (.int .i64 0) := (blk_cell BK103.out 2).trans rfl; have hcz29_3 : w27.cell? ⟨gb103, 3, none⟩ = some (.int .i64 0) := (blk_cell BK103.out 3).trans rfl; have hfz29_0 := blk_frozen BK103.out 0; have hfz29_1 := blk_frozen BK103.out 1; have hfz29_2 := blk_frozen BK103.out 2; have hfz29_3 := blk_frozen BK103.out 3; have p104 : 0 ≤ (((rd_T115 l0_0 x5_1).f1) : Int) := of_decide_eq_true qz0_; have q104 : ((rd_T115 l0_0 x5_1).f1) < (l1.length : Int) := of_decide_eq_true qz0_; obtain ⟨ad104, e104, hx104_0⟩ := Kd.at_int HR1.out ((rd_T115 l0_0 x5_1).f1) p104 q104; cases e104; have hn104_0 : ad104.block ≠ gb103 := Nat.ne_of_lt (Nat.lt_of_lt_of_le qz26_ GW103.out); have hn104_1 : ad104.block ≠ gb103 := Nat.ne_of_lt (Nat.lt_of_lt_of_le qz26_ GW103.out); have hn104_2 : ad104.block ≠ gb103 := Nat.ne_of_lt (Nat.lt_of_lt_of_le qz26_ GW103.out); have hn104_3 : ad104.block ≠ gb103 := Nat.ne_of_lt (Nat.lt_of_lt_of_le qz26_ GW103.out); replace hx104_0 := (HB.out.cell (World.block_lt_of_cell? w _ hx104_0)).trans hx104_0; replace hx104_0 := (cell_far (p := ⟨gb103, 0, none⟩) qz27_ (.int .i64 ((rd_T115 l0_0 x5_1).f0))).trans hx104_0; replace hx104_0 := (cell_far (p := ⟨gb103, 1, none⟩) qz28_ (.int .i64 ((rd_T115 l0_0 x5_1).f1))).trans hx104_0; replace hx104_0 := (cell_far (p := ⟨gb103, 2, none⟩) qz29_ (.int .i64 ((rd_T115 l0_0 x5_1).f2))).trans hx104_0; replace hx104_0 := (cell_far (p := ⟨gb103, 3, none⟩) qz30_ (.int .i64 ((rd_T115 l0_0 x5_1).f3))).trans hx104_0; (try have hy104_0 := fun (n_ : Nat) => (show ((((((w27.drewN n_).setCell ⟨gb103, 0, none⟩ (.int .i64 ((rd_T115 l0_0 x5_1).f0))).setCell ⟨gb103, 1, none⟩ (.int .i64 ((rd_T115 l0_0 x5_1).f1))).setCell ⟨gb103, 2, none⟩ (.int .i64 ((rd_T115 l0_0 x5_1).f2))).setCell ⟨gb103, 3, none⟩ (.int .i64 ((rd_T115 l0_0 x5_1).f3)))).cell? _ = some _ from hx104_0)); clear hn104_0; clear hn104_1; clear hn104_2; clear hn104_3; replace p104 := eq_true p104; replace q104 := eq_true q104; have p105 : 0 ≤ (((rd_T115 l0_0 x5_1).f2) : Int) := of_decide_eq_true qz0_; have q105 : ((rd_T115 l0_0 x5_1).f2) < (l1.length : Int) := of_decide_eq_true qz0_; obtain ⟨ad105, e105, hx105_0⟩ := Kd.at_int HR1.out ((rd_T115 l0_0 x5_1).f2) p105 q105; obtain rfl : ad104 = ad105 := (by injection e105); have hn105_0 : ad104.block ≠ gb103 := Nat.ne_of_lt (Nat.lt_of_lt_of_le qz31_ GW103.out); have hn105_1 : ad104.block ≠ gb103 := Nat.ne_of_lt (Nat.lt_of_lt_of_le qz31_ GW103.out); have hn105_2 : ad104.block ≠ gb103 := Nat.ne_of_lt (Nat.lt_of_lt_of_le qz31_ GW103.out); have hn105_3 : ad104.block ≠ gb103 := Nat.ne_of_lt (Nat.lt_of_lt_of_le qz31_ GW103.out); replace hx105_0 := (HB.out.cell (World.block_lt_of_cell? w _ hx105_0)).trans hx105_0; replace hx105_0 := (cell_far (p := ⟨gb103, 0, none⟩) qz32_ (.int .i64 ((rd_T115 l0_0 x5_1).f0))).trans hx105_0; replace hx105_0 := (cell_far (p := ⟨gb103, 1, none⟩) qz33_ (.int .i64 ((rd_T115 l0_0 x5_1).f1))).trans hx105_0; replace hx105_0 := (cell_far (p := ⟨gb103, 2, none⟩) qz34_ (.int .i64 ((rd_T115 l0_0 x5_1).f2))).trans hx105_0; replace hx105_0 := (cell_far (p := ⟨gb103, 3, none⟩) qz35_ (.int .i64 ((rd_T115 l0_0 x5_1).f3))).trans hx105_0; (try have hy105_0 := fun (n_ : Nat) => (show ((((((w27.drewN n_).setCell ⟨gb103, 0, none⟩ (.int .i64 ((rd_T115 l0_0 x5_1).f0))).setCell ⟨gb103, 1, none⟩ (.int .i64 ((rd_T115 l0_0 x5_1).f1))).setCell ⟨gb103, 2, none⟩ (.int .i64 ((rd_T115 l0_0 x5_1).f2))).setCell ⟨gb103, 3, none⟩ (.int .i64 ((rd_T115 l0_0 x5_1).f3)))).cell? _ = some _ from hx105_0)); clear hn105_0; clear hn105_1; clear hn105_2; clear hn105_3; replace p105 := eq_true p105; replace q105 := eq_true q105))
                      repeat (go_quiet (first | ((with_reducible refine gate_dst (N := 6) rfl ?_); refine box_event ?hg (N := 6) ?hd (cs := #[.int .i64 0, .int .i64 0, .int .i64 0, .int .i64 0]) (t := 115) ?hr ?_; (case hd => rfl); (case hg => rfl); (case hr => first | (go_simp; done) | (go_simp; rfl)); intro gb103 hg w27 hbox hb; have n0_ := Aside0.mk (blk_below (g := gb101) (o := .cells #[.slice (some ad102) l0_0.length c0_0] 63 (0, 0)) qz5_ hb); have n1_ := Aside0.mk (below_step qz6_ hb); have n2_ := Aside0.mk (hbox); have n3_ := Aside0.mk ((by rw [hg]; exact (below_size qz6_) : w.heap.size ≤ gb103)); have n4_ := Aside0.mk ((by rw [hg]; exact (below_size qz6_) : w.heap.size ≤ gb103)); have n5_ := Aside0.mk ((by rw [hg]; exact Nat.ne_of_lt (blk_lt (g := gb101) (o := .cells #[.slice (some ad102) l0_0.length c0_0] 63 (0, 0)) qz5_) : gb101 ≠ gb103)); have n6_ := Aside0.mk ((by rw [hg]; exact Nat.ne_of_gt (blk_lt (g := gb101) (o := .cells #[.slice (some ad102) l0_0.length c0_0] 63 (0, 0)) qz5_) : gb103 ≠ gb101)); clear BK101; clear HB; have BK101 := n0_; have HB := n1_; have BK103 := n2_; have GW103 := n3_; have GE103 := n4_; have NB101_103 := n5_; have NB103_101 := n6_; clear n0_ n1_ n2_ n3_ n4_ n5_ n6_; clear hb hbox hg; have hnb28 := NB103_101.out; have hnc28 := NB101_103.out; have hcz29_0 : w27.cell? ⟨gb103, 0, none⟩ = some (.int .i64 0) := (blk_cell BK103.out 0).trans rfl; have hcz29_1 : w27.cell? ⟨gb103, 1, none⟩ = some (.int .i64 0) := (blk_cell BK103.out 1).trans rfl; have hcz29_2 : w27.cell? ⟨gb103, 2, none⟩ = some (.int .i64 0) := (blk_cell BK103.out 2).trans rfl; have hcz29_3 : w27.cell? ⟨gb103, 3, none⟩ = some (.int .i64 0) := (blk_cell BK103.out 3).trans rfl; have hfz29_0 := blk_frozen BK103.out 0; have hfz29_1 := blk_frozen BK103.out 1; have hfz29_2 := blk_frozen BK103.out 2; have hfz29_3 := blk_frozen BK103.out 3; have p104 : 0 ≤ (((rd_T115 l0_0 x5_1).f1) : Int) := of_decide_eq_true qz0_; have q104 : ((rd_T115 l0_0 x5_1).f1) < (l1.length : Int) := of_decide_eq_true qz0_; obtain ⟨ad104, e104, hx104_0⟩ := Kd.at_int HR1.out ((rd_T115 l0_0 x5_1).f1) p104 q104; cases e104; have hn104_0 : ad104.block ≠ gb103 := Nat.ne_of_lt (Nat.lt_of_lt_of_le qz26_ GW103.out); have hn104_1 : ad104.block ≠ gb103 := Nat.ne_of_lt (Nat.lt_of_lt_of_le qz26_ GW103.out); have hn104_2 : ad104.block ≠ gb103 := Nat.ne_of_lt (Nat.lt_of_lt_of_le qz26_ GW103.out); have hn104_3 : ad104.block ≠ gb103 := Nat.ne_of_lt (Nat.lt_of_lt_of_le qz26_ GW103.out); replace hx104_0 := (HB.out.cell (World.block_lt_of_cell? w _ hx104_0)).trans hx104_0; replace hx104_0 := (cell_far (p := ⟨gb103, 0, none⟩) qz27_ (.int .i64 ((rd_T115 l0_0 x5_1).f0))).trans hx104_0; replace hx104_0 := (cell_far (p := ⟨gb103, 1, none⟩) qz28_ (.int .i64 ((rd_T115 l0_0 x5_1).f1))).trans hx104_0; replace hx104_0 := (cell_far (p := ⟨gb103, 2, none⟩) qz29_ (.int .i64 ((rd_T115 l0_0 x5_1).f2))).trans hx104_0; replace hx104_0 := (cell_far (p := ⟨gb103, 3, none⟩) qz30_ (.int .i64 ((rd_T115 l0_0 x5_1).f3))).trans hx104_0; (try have hy104_0 := fun (n_ : Nat) => (show ((((((w27.drewN n_).setCell ⟨gb103, 0, none⟩ (.int .i64 ((rd_T115 l0_0 x5_1).f0))).setCell ⟨gb103, 1, none⟩ (.int .i64 ((rd_T115 l0_0 x5_1).f1))).setCell ⟨gb103, 2, none⟩ (.int .i64 ((rd_T115 l0_0 x5_1).f2))).setCell ⟨gb103, 3, none⟩ (.int .i64 ((rd_T115 l0_0 x5_1).f3)))).cell? _ = some _ from hx104_0)); clear hn104_0; clear hn104_1; clear hn104_2; clear hn104_3; replace p104 := eq_true p104; replace q104 := eq_true q104; have p105 : 0 ≤ (((rd_T115 l0_0 x5_1).f2) : Int) := of_decide_eq_true qz0_; have q105 : ((rd_T115 l0_0 x5_1).f2) < (l1.length : Int) := of_decide_eq_true qz0_; obtain ⟨ad105, e105, hx105_0⟩ := Kd.at_int HR1.out ((rd_T115 l0_0 x5_1).f2) p105 q105; obtain rfl : ad104 = ad105 := (by injection e105); have hn105_0 : ad104.block ≠ gb103 := Nat.ne_of_lt (Nat.lt_of_lt_of_le qz31_ GW103.out); have hn105_1 : ad104.block ≠ gb103 := Nat.ne_of_lt (Nat.lt_of_lt_of_le qz31_ GW103.out); have hn105_2 : ad104.block ≠ gb103 := Nat.ne_of_lt (Nat.lt_of_lt_of_le qz31_ GW103.out); have hn105_3 : ad104.block ≠ gb103 := Nat.ne_of_lt (Nat.lt_of_lt_of_le qz31_ GW103.out); replace hx105_0 := (HB.out.cell (World.block_lt_of_cell? w _ hx105_0)).trans hx105_0; replace hx105_0 := (cell_far (p := ⟨gb103, 0, none⟩) qz32_ (.int .i64 ((rd_T115 l0_0 x5_1).f0))).trans hx105_0; replace hx105_0 := (cell_far (p := ⟨gb103, 1, none⟩) qz33_ (.int .i64 ((rd_T115 l0_0 x5_1).f1))).trans hx105_0; replace hx105_0 := (cell_far (p := ⟨gb103, 2, none⟩) qz34_ (.int .i64 ((rd_T115 l0_0 x5_1).f2))).trans hx105_0; replace hx105_0 := (cell_far (p := ⟨gb103, 3, none⟩) qz35_ (.int .i64 ((rd_T115 l0_0 x5_1).f3))).trans hx105_0; (try have hy105_0 := fun (n_ : Nat) => (show ((((((w27.drewN n_).setCell ⟨gb103, 0, none⟩ (.int .i64 ((rd_T115 l0_0 x5_1).f0))).setCell ⟨gb103, 1, none⟩ (.int .i64 ((rd_T115 l0_0 x5_1).f1))).setCell ⟨gb103, 2, none⟩ (.int .i64 ((rd_T115 l0_0 x5_1).f2))).setCell ⟨gb103, 3, none⟩ (.int .i64 ((rd_T115 l0_0 x5_1).f3)))).cell? _ = some _ from hx105_0)); clear hn105_0; clear hn105_1; clear hn105_2; clear hn105_3; replace p105 := eq_true p105; replace q105 := eq_true q105)); try go_wp2_with (first | ((with_reducible refine gate_dst (N := 6) rfl ?_); refine box_event ?hg (N := 6) ?hd (cs := #[.int .i64 0, .int .i64 0, .int .i64 0, .int .i64 0]) (t := 115) ?hr ?_; (case hd => rfl); (case hg => rfl); (case hr => first | (go_simp; done) | (go_simp; rfl)); intro gb103 hg w27 hbox hb; have n0_ := Aside0.mk (blk_below (g := gb101) (o := .cells #[.slice (some ad102) l0_0.length c0_0] 63 (0, 0)) qz5_ hb); have n1_ := Aside0.mk (below_step qz6_ hb); have n2_ := Aside0.mk (hbox); have n3_ := Aside0.mk ((by rw [hg]; exact (below_size qz6_) : w.heap.size ≤ gb103)); have n4_ := Aside0.mk ((by rw [hg]; exact (below_size qz6_) : w.heap.size ≤ gb103)); have n5_ := Aside0.mk ((by rw [hg]; exact Nat.ne_of_lt (blk_lt (g := gb101) (o := .cells #[.slice (some ad102) l0_0.length c0_0] 63 (0, 0)) qz5_) : gb101 ≠ gb103)); have n6_ := Aside0.mk ((by rw [hg]; exact Nat.ne_of_gt (blk_lt (g := gb101) (o := .cells #[.slice (some ad102) l0_0.length c0_0] 63 (0, 0)) qz5_) : gb103 ≠ gb101)); clear BK101; clear HB; have BK101 := n0_; have HB := n1_; have BK103 := n2_; have GW103 := n3_; have GE103 := n4_; have NB101_103 := n5_; have NB103_101 := n6_; clear n0_ n1_ n2_ n3_ n4_ n5_ n6_; clear hb hbox hg; have hnb28 := NB103_101.out; have hnc28 := NB101_103.out; have hcz29_0 : w27.cell? ⟨gb103, 0, none⟩ = some (.int .i64 0) := (blk_cell BK103.out 0).trans rfl; have hcz29_1 : w27.cell? ⟨gb103, 1, none⟩ = some (.int .i64 0) := (blk_cell BK103.out 1).trans rfl; have hcz29_2 : w27.cell? ⟨gb103, 2, none⟩ = some (.int .i64 0) := (blk_cell BK103.out 2).trans rfl; have hcz29_3 : w27.cell? ⟨gb103, 3, none⟩ = some (.int .i64 0) := (blk_cell BK103.out 3).trans rfl; have hfz29_0 := blk_frozen BK103.out 0; have hfz29_1 := blk_frozen BK103.out 1; have hfz29_2 := blk_frozen BK103.out 2; have hfz29_3 := blk_frozen BK103.out 3; have p104 : 0 ≤ (((rd_T115 l0_0 x5_1).f1) : Int) := of_decide_eq_true qz0_; have q104 : ((rd_T115 l0_0 x5_1).f1) < (l1.length : Int) := of_decide_eq_true qz0_; obtain ⟨ad104, e104, hx104_0⟩ := Kd.at_int HR1.out ((rd_T115 l0_0 x5_1).f1) p104 q104; cases e104; have hn104_0 : ad104.block ≠ gb103 := Nat.ne_of_lt (Nat.lt_of_lt_of_le qz26_ GW103.out); have hn104_1 : ad104.block ≠ gb103 := Nat.ne_of_lt (Nat.lt_of_lt_of_le qz26_ GW103.out); have hn104_2 : ad104.block ≠ gb103 := Nat.ne_of_lt (Nat.lt_of_lt_of_le qz26_ GW103.out); have hn104_3 : ad104.block ≠ gb103 := Nat.ne_of_lt (Nat.lt_of_lt_of_le qz26_ GW103.out); replace hx104_0 := (HB.out.cell (World.block_lt_of_cell? w _ hx104_0)).trans hx104_0; replace hx104_0 := (cell_far (p := ⟨gb103, 0, none⟩) qz27_ (.int .i64 ((rd_T115 l0_0 x5_1).f0))).trans hx104_0; replace hx104_0 := (cell_far (p := ⟨gb103, 1, none⟩) qz28_ (.int .i64 ((rd_T115 l0_0 x5_1).f1))).trans hx104_0; replace hx104_0 := (cell_far (p := ⟨gb103, 2, none⟩) qz29_ (.int .i64 ((rd_T115 l0_0 x5_1).f2))).trans hx104_0; replace hx104_0 := (cell_far (p := ⟨gb103, 3, none⟩) qz30_ (.int .i64 ((rd_T115 l0_0 x5_1).f3))).trans hx104_0; (try have hy104_0 := fun (n_ : Nat) => (show ((((((w27.drewN n_).setCell ⟨gb103, 0, none⟩ (.int .i64 ((rd_T115 l0_0 x5_1).f0))).setCell ⟨gb103, 1, none⟩ (.int .i64 ((rd_T115 l0_0 x5_1).f1))).setCell ⟨gb103, 2, none⟩ (.int .i64 ((rd_T115 l0_0 x5_1).f2))).setCell ⟨gb103, 3, none⟩ (.int .i64 ((rd_T115 l0_0 x5_1).f3)))).cell? _ = some _ from hx104_0)); clear hn104_0; clear hn104_1; clear hn104_2; clear hn104_3; replace p104 := eq_true p104; replace q104 := eq_true q104; have p105 : 0 ≤ (((rd_T115 l0_0 x5_1).f2) : Int) := of_decide_eq_true qz0_; have q105 : ((rd_T115 l0_0 x5_1).f2) < (l1.length : Int) := of_decide_eq_true qz0_; obtain ⟨ad105, e105, hx105_0⟩ := Kd.at_int HR1.out ((rd_T115 l0_0 x5_1).f2) p105 q105; obtain rfl : ad104 = ad105 := (by injection e105); have hn105_0 : ad104.block ≠ gb103 := Nat.ne_of_lt (Nat.lt_of_lt_of_le qz31_ GW103.out); have hn105_1 : ad104.block ≠ gb103 := Nat.ne_of_lt (Nat.lt_of_lt_of_le qz31_ GW103.out); have hn105_2 : ad104.block ≠ gb103 := Nat.ne_of_lt (Nat.lt_of_lt_of_le qz31_ GW103.out); have hn105_3 : ad104.block ≠ gb103 := Nat.ne_of_lt (Nat.lt_of_lt_of_le qz31_ GW103.out); replace hx105_0 := (HB.out.cell (World.block_lt_of_cell? w _ hx105_0)).trans hx105_0; replace hx105_0 := (cell_far (p := ⟨gb103, 0, none⟩) qz32_ (.int .i64 ((rd_T115 l0_0 x5_1).f0))).trans hx105_0; replace hx105_0 := (cell_far (p := ⟨gb103, 1, none⟩) qz33_ (.int .i64 ((rd_T115 l0_0 x5_1).f1))).trans hx105_0; replace hx105_0 := (cell_far (p := ⟨gb103, 2, none⟩) qz34_ (.int .i64 ((rd_T115 l0_0 x5_1).f2))).trans hx105_0; replace hx105_0 := (cell_far (p := ⟨gb103, 3, none⟩) qz35_ (.int .i64 ((rd_T115 l0_0 x5_1).f3))).trans hx105_0; (try have hy105_0 := fun (n_ : Nat) => (show ((((((w27.drewN n_).setCell ⟨gb103, 0, none⟩ (.int .i64 ((rd_T115 l0_0 x5_1).f0))).setCell ⟨gb103, 1, none⟩ (.int .i64 ((rd_T115 l0_0 x5_1).f1))).setCell ⟨gb103, 2, none⟩ (.int .i64 ((rd_T115 l0_0 x5_1).f2))).setCell ⟨gb103, 3, none⟩ (.int .i64 ((rd_T115 l0_0 x5_1).f3)))).cell? _ = some _ from hx105_0)); clear hn105_0; clear hn105_1; clear hn105_2; clear hn105_3; replace p105 := eq_true p105; replace q105 := eq_true q105)))
                      go_ret
                      exact ⟨by first | rfl | (simp [errW_none, errW_some] <;> rfl) | (simp [*, errW_none, errW_some] <;> rfl), by repeat (first | (with_reducible first | exact HB.out | apply below_alloc | apply pw_below_drewN | apply below_drew1 | refine below_set ?_ GE101.out | refine below_set ?_ GE103.out) | exact HB.out)⟩
                  · rw [if_neg c10] at H
                    exact absurd H (by simp)
                · rw [if_neg c9] at H
                  exact absurd H (by simp)
              · rw [if_neg c8] at H
                exact absurd H (by simp)
            · rw [if_neg c7] at H
              exact absurd H (by simp)
          · rw [if_neg c6] at H
            have c6b0 : (((rd_T115 l0_0 x5_1).f0) == 7) = false := beq_eq_false_iff_ne.mpr c6
            have c6b1 : (((rd_T115 l0_0 x5_1).f0) != 7) = true := bne_iff_ne.mpr c6
            by_cases c30 : ((rd_T115 l0_0 x5_1).f0) = 8
            · rw [if_pos c30] at H
              have c30b0 : (((rd_T115 l0_0 x5_1).f0) == 8) = true := beq_iff_eq.mpr c30
              have c30b1 : (((rd_T115 l0_0 x5_1).f0) != 8) = false := bne_eq_false_iff_eq.mpr c30
              clear c30
              by_cases c31 : 0 ≤ ((rd_T115 l0_0 x5_1).f1)
              · rw [if_pos c31] at H
                have c31b0 : decide (0 ≤ ((rd_T115 l0_0 x5_1).f1)) = true := decide_eq_true c31
                clear c31
                by_cases c32 : ((rd_T115 l0_0 x5_1).f1) < (l1.length : Int)
                · rw [if_pos c32] at H
                  have c32b0 : decide (((rd_T115 l0_0 x5_1).f1) < (l1.length : Int)) = true := decide_eq_true c32
                  clear c32
                  by_cases c33 : (rd l1 ((rd_T115 l0_0 x5_1).f1)) > 1
                  · rw [if_pos c33] at H
                    have c33b0 : decide (1 < (rd l1 ((rd_T115 l0_0 x5_1).f1))) = true := decide_eq_true c33
                    clear c33
                    obtain rfl := Option.some.inj H
                    have hcz34_0 : wr.cell? ⟨gb101, 0, none⟩ = some (.slice A0_0 l0_0.length c0_0) := (blk_cell BK101.out 0).trans rfl
                    have hfz34_0 := blk_frozen BK101.out 0
                    have p102 : 0 ≤ (x5_1 : Int) := of_decide_eq_true qz0_
                    have q102 : x5_1 < (l0_0.length : Int) := of_decide_eq_true qz0_
                    obtain ⟨ad102, e102, hx102_0, hx102_1, hx102_2, hx102_3⟩ := at_T115 HR0_0.out x5_1 p102 q102
                    cases e102
                    replace hx102_0 := (HB.out.cell (World.block_lt_of_cell? w _ hx102_0)).trans hx102_0
                    replace hx102_1 := (HB.out.cell (World.block_lt_of_cell? w _ hx102_1)).trans hx102_1
                    replace hx102_2 := (HB.out.cell (World.block_lt_of_cell? w _ hx102_2)).trans hx102_2
                    replace hx102_3 := (HB.out.cell (World.block_lt_of_cell? w _ hx102_3)).trans hx102_3
                    replace p102 := eq_true p102
                    replace q102 := eq_true q102
                    go_wp2_with (first | ((with_reducible refine gate_dst (N := 6) rfl ?_); refine box_event ?hg (N := 6) ?hd (cs := #[.int .i64 0, .int .i64 0, .int .i64 0, .int .i64 0]) (t := 115) ?hr ?_; (case hd => rfl); (case hg => rfl); (case hr => first | (go_simp; done) | (go_simp; rfl)); intro gb103 hg w35 hbox hb; have n0_ := Aside0.mk (blk_below (g := gb101) (o := .cells #[.slice (some ad102) l0_0.length c0_0] 63 (0, 0)) qz5_ hb); have n1_ := Aside0.mk (below_step qz6_ hb); have n2_ := Aside0.mk (hbox); have n3_ := Aside0.mk ((by rw [hg]; exact (below_size qz6_) : w.heap.size ≤ gb103)); have n4_ := Aside0.mk ((by rw [hg]; exact (below_size qz6_) : w.heap.size ≤ gb103)); have n5_ := Aside0.mk ((by rw [hg]; exact Nat.ne_of_lt (blk_lt (g := gb101) (o := .cells #[.slice (some ad102) l0_0.length c0_0] 63 (0, 0)) qz5_) : gb101 ≠ gb103)); have n6_ := Aside0.mk ((by rw [hg]; exact Nat.ne_of_gt (blk_lt (g := gb101) (o := .cells #[.slice (some ad102) l0_0.length c0_0] 63 (0, 0)) qz5_) : gb103 ≠ gb101)); clear BK101; clear HB; have BK101 := n0_; have HB := n1_; have BK103 := n2_; have GW103 := n3_; have GE103 := n4_; have NB101_103 := n5_; have NB103_101 := n6_; clear n0_ n1_ n2_ n3_ n4_ n5_ n6_; clear hb hbox hg; have hnb36 := NB103_101.out; have hnc36 := NB101_103.out; have hcz37_0 : w35.cell? ⟨gb103, 0, none⟩ = some (.int .i64 0) := (blk_cell BK103.out 0).trans rfl; have hcz37_1 : w35.cell? ⟨gb103, 1, none⟩ = some (.int .i64 0) := (blk_cell BK103.out 1).trans rfl; have hcz37_2 : w35.cell? ⟨gb103, 2, none⟩ = some (.int .i64 0) := (blk_cell BK103.out 2).trans rfl; have hcz37_3 : w35.cell? ⟨gb103, 3, none⟩ = some (.int .i64 0) := (blk_cell BK103.out 3).trans rfl; have hfz37_0 := blk_frozen BK103.out 0; have hfz37_1 := blk_frozen BK103.out 1; have hfz37_2 := blk_frozen BK103.out 2; have hfz37_3 := blk_frozen BK103.out 3; have p107 : 0 ≤ (((rd_T115 l0_0 x5_1).f1) : Int) := of_decide_eq_true qz0_; have q107 : ((rd_T115 l0_0 x5_1).f1) < (l1.length : Int) := of_decide_eq_true qz0_; obtain ⟨ad107, e107, hx107_0⟩ := Kd.at_int HR1.out ((rd_T115 l0_0 x5_1).f1) p107 q107; cases e107; have hn107_0 : ad107.block ≠ gb103 := Nat.ne_of_lt (Nat.lt_of_lt_of_le qz8_ GW103.out); have hn107_1 : ad107.block ≠ gb103 := Nat.ne_of_lt (Nat.lt_of_lt_of_le qz8_ GW103.out); have hn107_2 : ad107.block ≠ gb103 := Nat.ne_of_lt (Nat.lt_of_lt_of_le qz8_ GW103.out); have hn107_3 : ad107.block ≠ gb103 := Nat.ne_of_lt (Nat.lt_of_lt_of_le qz8_ GW103.out); replace hx107_0 := (HB.out.cell (World.block_lt_of_cell? w _ hx107_0)).trans hx107_0; replace hx107_0 := (cell_far (p := ⟨gb103, 0, none⟩) qz9_ (.int .i64 ((rd_T115 l0_0 x5_1).f0))).trans hx107_0; replace hx107_0 := (cell_far (p := ⟨gb103, 1, none⟩) qz10_ (.int .i64 ((rd_T115 l0_0 x5_1).f1))).trans hx107_0; replace hx107_0 := (cell_far (p := ⟨gb103, 2, none⟩) qz11_ (.int .i64 ((rd_T115 l0_0 x5_1).f2))).trans hx107_0; replace hx107_0 := (cell_far (p := ⟨gb103, 3, none⟩) qz12_ (.int .i64 ((rd_T115 l0_0 x5_1).f3))).trans hx107_0; (try have hy107_0 := fun (n_ : Nat) => (show ((((((w35.drewN n_).setCell ⟨gb103, 0, none⟩ (.int .i64 ((rd_T115 l0_0 x5_1).f0))).setCell ⟨gb103, 1, none⟩ (.int .i64 ((rd_T115 l0_0 x5_1).f1))).setCell ⟨gb103, 2, none⟩ (.int .i64 ((rd_T115 l0_0 x5_1).f2))).setCell ⟨gb103, 3, none⟩ (.int .i64 ((rd_T115 l0_0 x5_1).f3)))).cell? _ = some _ from hx107_0)); clear hn107_0; clear hn107_1; clear hn107_2; clear hn107_3; replace p107 := eq_true p107; replace q107 := eq_true q107))
                    repeat (go_quiet (first | ((with_reducible refine gate_dst (N := 6) rfl ?_); refine box_event ?hg (N := 6) ?hd (cs := #[.int .i64 0, .int .i64 0, .int .i64 0, .int .i64 0]) (t := 115) ?hr ?_; (case hd => rfl); (case hg => rfl); (case hr => first | (go_simp; done) | (go_simp; rfl)); intro gb103 hg w35 hbox hb; have n0_ := Aside0.mk (blk_below (g := gb101) (o := .cells #[.slice (some ad102) l0_0.length c0_0] 63 (0, 0)) qz5_ hb); have n1_ := Aside0.mk (below_step qz6_ hb); have n2_ := Aside0.mk (hbox); have n3_ := Aside0.mk ((by rw [hg]; exact (below_size qz6_) : w.heap.size ≤ gb103)); have n4_ := Aside0.mk ((by rw [hg]; exact (below_size qz6_) : w.heap.size ≤ gb103)); have n5_ := Aside0.mk ((by rw [hg]; exact Nat.ne_of_lt (blk_lt (g := gb101) (o := .cells #[.slice (some ad102) l0_0.length c0_0] 63 (0, 0)) qz5_) : gb101 ≠ gb103)); have n6_ := Aside0.mk ((by rw [hg]; exact Nat.ne_of_gt (blk_lt (g := gb101) (o := .cells #[.slice (some ad102) l0_0.length c0_0] 63 (0, 0)) qz5_) : gb103 ≠ gb101)); clear BK101; clear HB; have BK101 := n0_; have HB := n1_; have BK103 := n2_; have GW103 := n3_; have GE103 := n4_; have NB101_103 := n5_; have NB103_101 := n6_; clear n0_ n1_ n2_ n3_ n4_ n5_ n6_; clear hb hbox hg; have hnb36 := NB103_101.out; have hnc36 := NB101_103.out; have hcz37_0 : w35.cell? ⟨gb103, 0, none⟩ = some (.int .i64 0) := (blk_cell BK103.out 0).trans rfl; have hcz37_1 : w35.cell? ⟨gb103, 1, none⟩ = some (.int .i64 0) := (blk_cell BK103.out 1).trans rfl; have hcz37_2 : w35.cell? ⟨gb103, 2, none⟩ = some (.int .i64 0) := (blk_cell BK103.out 2).trans rfl; have hcz37_3 : w35.cell? ⟨gb103, 3, none⟩ = some (.int .i64 0) := (blk_cell BK103.out 3).trans rfl; have hfz37_0 := blk_frozen BK103.out 0; have hfz37_1 := blk_frozen BK103.out 1; have hfz37_2 := blk_frozen BK103.out 2; have hfz37_3 := blk_frozen BK103.out 3; have p107 : 0 ≤ (((rd_T115 l0_0 x5_1).f1) : Int) := of_decide_eq_true qz0_; have q107 : ((rd_T115 l0_0 x5_1).f1) < (l1.length : Int) := of_decide_eq_true qz0_; obtain ⟨ad107, e107, hx107_0⟩ := Kd.at_int HR1.out ((rd_T115 l0_0 x5_1).f1) p107 q107; cases e107; have hn107_0 : ad107.block ≠ gb103 := Nat.ne_of_lt (Nat.lt_of_lt_of_le qz8_ GW103.out); have hn107_1 : ad107.block ≠ gb103 := Nat.ne_of_lt (Nat.lt_of_lt_of_le qz8_ GW103.out); have hn107_2 : ad107.block ≠ gb103 := Nat.ne_of_lt (Nat.lt_of_lt_of_le qz8_ GW103.out); have hn107_3 : ad107.block ≠ gb103 := Nat.ne_of_lt (Nat.lt_of_lt_of_le qz8_ GW103.out); replace hx107_0 := (HB.out.cell (World.block_lt_of_cell? w _ hx107_0)).trans hx107_0; replace hx107_0 := (cell_far (p := ⟨gb103, 0, none⟩) qz9_ (.int .i64 ((rd_T115 l0_0 x5_1).f0))).trans hx107_0; replace hx107_0 := (cell_far (p := ⟨gb103, 1, none⟩) qz10_ (.int .i64 ((rd_T115 l0_0 x5_1).f1))).trans hx107_0; replace hx107_0 := (cell_far (p := ⟨gb103, 2, none⟩) qz11_ (.int .i64 ((rd_T115 l0_0 x5_1).f2))).trans hx107_0; replace hx107_0 := (cell_far (p := ⟨gb103, 3, none⟩) qz12_ (.int .i64 ((rd_T115 l0_0 x5_1).f3))).trans hx107_0; (try have hy107_0 := fun (n_ : Nat) => (show ((((((w35.drewN n_).setCell ⟨gb103, 0, none⟩ (.int .i64 ((rd_T115 l0_0 x5_1).f0))).setCell ⟨gb103, 1, none⟩ (.int .i64 ((rd_T115 l0_0 x5_1).f1))).setCell ⟨gb103, 2, none⟩ (.int .i64 ((rd_T115 l0_0 x5_1).f2))).setCell ⟨gb103, 3, none⟩ (.int .i64 ((rd_T115 l0_0 x5_1).f3)))).cell? _ = some _ from hx107_0)); clear hn107_0; clear hn107_1; clear hn107_2; clear hn107_3; replace p107 := eq_true p107; replace q107 := eq_true q107)); try go_wp2_with (first | ((with_reducible refine gate_dst (N := 6) rfl ?_); refine box_event ?hg (N := 6) ?hd (cs := #[.int .i64 0, .int .i64 0, .int .i64 0, .int .i64 0]) (t := 115) ?hr ?_; (case hd => rfl); (case hg => rfl); (case hr => first | (go_simp; done) | (go_simp; rfl)); intro gb103 hg w35 hbox hb; have n0_ := Aside0.mk (blk_below (g := gb101) (o := .cells #[.slice (some ad102) l0_0.length c0_0] 63 (0, 0)) qz5_ hb); have n1_ := Aside0.mk (below_step qz6_ hb); have n2_ := Aside0.mk (hbox); have n3_ := Aside0.mk ((by rw [hg]; exact (below_size qz6_) : w.heap.size ≤ gb103)); have n4_ := Aside0.mk ((by rw [hg]; exact (below_size qz6_) : w.heap.size ≤ gb103)); have n5_ := Aside0.mk ((by rw [hg]; exact Nat.ne_of_lt (blk_lt (g := gb101) (o := .cells #[.slice (some ad102) l0_0.length c0_0] 63 (0, 0)) qz5_) : gb101 ≠ gb103)); have n6_ := Aside0.mk ((by rw [hg]; exact Nat.ne_of_gt (blk_lt (g := gb101) (o := .cells #[.slice (some ad102) l0_0.length c0_0] 63 (0, 0)) qz5_) : gb103 ≠ gb101)); clear BK101; clear HB; have BK101 := n0_; have HB := n1_; have BK103 := n2_; have GW103 := n3_; have GE103 := n4_; have NB101_103 := n5_; have NB103_101 := n6_; clear n0_ n1_ n2_ n3_ n4_ n5_ n6_; clear hb hbox hg; have hnb36 := NB103_101.out; have hnc36 := NB101_103.out; have hcz37_0 : w35.cell? ⟨gb103, 0, none⟩ = some (.int .i64 0) := (blk_cell BK103.out 0).trans rfl; have hcz37_1 : w35.cell? ⟨gb103, 1, none⟩ = some (.int .i64 0) := (blk_cell BK103.out 1).trans rfl; have hcz37_2 : w35.cell? ⟨gb103, 2, none⟩ = some (.int .i64 0) := (blk_cell BK103.out 2).trans rfl; have hcz37_3 : w35.cell? ⟨gb103, 3, none⟩ = some (.int .i64 0) := (blk_cell BK103.out 3).trans rfl; have hfz37_0 := blk_frozen BK103.out 0; have hfz37_1 := blk_frozen BK103.out 1; have hfz37_2 := blk_frozen BK103.out 2; have hfz37_3 := blk_frozen BK103.out 3; have p107 : 0 ≤ (((rd_T115 l0_0 x5_1).f1) : Int) := of_decide_eq_true qz0_; have q107 : ((rd_T115 l0_0 x5_1).f1) < (l1.length : Int) := of_decide_eq_true qz0_; obtain ⟨ad107, e107, hx107_0⟩ := Kd.at_int HR1.out ((rd_T115 l0_0 x5_1).f1) p107 q107; cases e107; have hn107_0 : ad107.block ≠ gb103 := Nat.ne_of_lt (Nat.lt_of_lt_of_le qz8_ GW103.out); have hn107_1 : ad107.block ≠ gb103 := Nat.ne_of_lt (Nat.lt_of_lt_of_le qz8_ GW103.out); have hn107_2 : ad107.block ≠ gb103 := Nat.ne_of_lt (Nat.lt_of_lt_of_le qz8_ GW103.out); have hn107_3 : ad107.block ≠ gb103 := Nat.ne_of_lt (Nat.lt_of_lt_of_le qz8_ GW103.out); replace hx107_0 := (HB.out.cell (World.block_lt_of_cell? w _ hx107_0)).trans hx107_0; replace hx107_0 := (cell_far (p := ⟨gb103, 0, none⟩) qz9_ (.int .i64 ((rd_T115 l0_0 x5_1).f0))).trans hx107_0; replace hx107_0 := (cell_far (p := ⟨gb103, 1, none⟩) qz10_ (.int .i64 ((rd_T115 l0_0 x5_1).f1))).trans hx107_0; replace hx107_0 := (cell_far (p := ⟨gb103, 2, none⟩) qz11_ (.int .i64 ((rd_T115 l0_0 x5_1).f2))).trans hx107_0; replace hx107_0 := (cell_far (p := ⟨gb103, 3, none⟩) qz12_ (.int .i64 ((rd_T115 l0_0 x5_1).f3))).trans hx107_0; (try have hy107_0 := fun (n_ : Nat) => (show ((((((w35.drewN n_).setCell ⟨gb103, 0, none⟩ (.int .i64 ((rd_T115 l0_0 x5_1).f0))).setCell ⟨gb103, 1, none⟩ (.int .i64 ((rd_T115 l0_0 x5_1).f1))).setCell ⟨gb103, 2, none⟩ (.int .i64 ((rd_T115 l0_0 x5_1).f2))).setCell ⟨gb103, 3, none⟩ (.int .i64 ((rd_T115 l0_0 x5_1).f3)))).cell? _ = some _ from hx107_0)); clear hn107_0; clear hn107_1; clear hn107_2; clear hn107_3; replace p107 := eq_true p107; replace q107 := eq_true q107)))
                    go_ret
                    exact ⟨by first | rfl | (simp [errW_none, errW_some] <;> rfl) | (simp [*, errW_none, errW_some] <;> rfl), by repeat (first | (with_reducible first | exact HB.out | apply below_alloc | apply pw_below_drewN | apply below_drew1 | refine below_set ?_ GE101.out | refine below_set ?_ GE103.out) | exact HB.out)⟩
                  · rw [if_neg c33] at H
                    have c33b0 : decide (1 < (rd l1 ((rd_T115 l0_0 x5_1).f1))) = false := decide_eq_false c33
                    clear c33
                    have H' := Aside0.mk H
                    clear H
                    have hcz38_0 : wr.cell? ⟨gb101, 0, none⟩ = some (.slice A0_0 l0_0.length c0_0) := (blk_cell BK101.out 0).trans rfl
                    have hfz38_0 := blk_frozen BK101.out 0
                    have p102 : 0 ≤ (x5_1 : Int) := of_decide_eq_true qz0_
                    have q102 : x5_1 < (l0_0.length : Int) := of_decide_eq_true qz0_
                    obtain ⟨ad102, e102, hx102_0, hx102_1, hx102_2, hx102_3⟩ := at_T115 HR0_0.out x5_1 p102 q102
                    cases e102
                    replace hx102_0 := (HB.out.cell (World.block_lt_of_cell? w _ hx102_0)).trans hx102_0
                    replace hx102_1 := (HB.out.cell (World.block_lt_of_cell? w _ hx102_1)).trans hx102_1
                    replace hx102_2 := (HB.out.cell (World.block_lt_of_cell? w _ hx102_2)).trans hx102_2
                    replace hx102_3 := (HB.out.cell (World.block_lt_of_cell? w _ hx102_3)).trans hx102_3
                    replace p102 := eq_true p102
                    replace q102 := eq_true q102
                    go_wp2_with (first | ((with_reducible refine gate_dst (N := 6) rfl ?_); refine box_event ?hg (N := 6) ?hd (cs := #[.int .i64 0, .int .i64 0, .int .i64 0, .int .i64 0]) (t := 115) ?hr ?_; (case hd => rfl); (case hg => rfl); (case hr => first | (go_simp; done) | (go_simp; rfl)); intro gb103 hg w39 hbox hb; have n0_ := Aside0.mk (blk_below (g := gb101) (o := .cells #[.slice (some ad102) l0_0.length c0_0] 63 (0, 0)) qz5_ hb); have n1_ := Aside0.mk (below_step qz6_ hb); have n2_ := Aside0.mk (hbox); have n3_ := Aside0.mk ((by rw [hg]; exact (below_size qz6_) : w.heap.size ≤ gb103)); have n4_ := Aside0.mk ((by rw [hg]; exact (below_size qz6_) : w.heap.size ≤ gb103)); have n5_ := Aside0.mk ((by rw [hg]; exact Nat.ne_of_lt (blk_lt (g := gb101) (o := .cells #[.slice (some ad102) l0_0.length c0_0] 63 (0, 0)) qz5_) : gb101 ≠ gb103)); have n6_ := Aside0.mk ((by rw [hg]; exact Nat.ne_of_gt (blk_lt (g := gb101) (o := .cells #[.slice (some ad102) l0_0.length c0_0] 63 (0, 0)) qz5_) : gb103 ≠ gb101)); clear BK101; clear HB; have BK101 := n0_; have HB := n1_; have BK103 := n2_; have GW103 := n3_; have GE103 := n4_; have NB101_103 := n5_; have NB103_101 := n6_; clear n0_ n1_ n2_ n3_ n4_ n5_ n6_; clear hb hbox hg; have hnb40 := NB103_101.out; have hnc40 := NB101_103.out; have hcz41_0 : w39.cell? ⟨gb103, 0, none⟩ = some (.int .i64 0) := (blk_cell BK103.out 0).trans rfl; have hcz41_1 : w39.cell? ⟨gb103, 1, none⟩ = some (.int .i64 0) := (blk_cell BK103.out 1).trans rfl; have hcz41_2 : w39.cell? ⟨gb103, 2, none⟩ = some (.int .i64 0) := (blk_cell BK103.out 2).trans rfl; have hcz41_3 : w39.cell? ⟨gb103, 3, none⟩ = some (.int .i64 0) := (blk_cell BK103.out 3).trans rfl; have hfz41_0 := blk_frozen BK103.out 0; have hfz41_1 := blk_frozen BK103.out 1; have hfz41_2 := blk_frozen BK103.out 2; have hfz41_3 := blk_frozen BK103.out 3; have p107 : 0 ≤ (((rd_T115 l0_0 x5_1).f1) : Int) := of_decide_eq_true qz0_; have q107 : ((rd_T115 l0_0 x5_1).f1) < (l1.length : Int) := of_decide_eq_true qz0_; obtain ⟨ad107, e107, hx107_0⟩ := Kd.at_int HR1.out ((rd_T115 l0_0 x5_1).f1) p107 q107; cases e107; have hn107_0 : ad107.block ≠ gb103 := Nat.ne_of_lt (Nat.lt_of_lt_of_le qz8_ GW103.out); have hn107_1 : ad107.block ≠ gb103 := Nat.ne_of_lt (Nat.lt_of_lt_of_le qz8_ GW103.out); have hn107_2 : ad107.block ≠ gb103 := Nat.ne_of_lt (Nat.lt_of_lt_of_le qz8_ GW103.out); have hn107_3 : ad107.block ≠ gb103 := Nat.ne_of_lt (Nat.lt_of_lt_of_le qz8_ GW103.out); replace hx107_0 := (HB.out.cell (World.block_lt_of_cell? w _ hx107_0)).trans hx107_0; replace hx107_0 := (cell_far (p := ⟨gb103, 0, none⟩) qz9_ (.int .i64 ((rd_T115 l0_0 x5_1).f0))).trans hx107_0; replace hx107_0 := (cell_far (p := ⟨gb103, 1, none⟩) qz10_ (.int .i64 ((rd_T115 l0_0 x5_1).f1))).trans hx107_0; replace hx107_0 := (cell_far (p := ⟨gb103, 2, none⟩) qz11_ (.int .i64 ((rd_T115 l0_0 x5_1).f2))).trans hx107_0; replace hx107_0 := (cell_far (p := ⟨gb103, 3, none⟩) qz12_ (.int .i64 ((rd_T115 l0_0 x5_1).f3))).trans hx107_0; (try have hy107_0 := fun (n_ : Nat) => (show ((((((w39.drewN n_).setCell ⟨gb103, 0, none⟩ (.int .i64 ((rd_T115 l0_0 x5_1).f0))).setCell ⟨gb103, 1, none⟩ (.int .i64 ((rd_T115 l0_0 x5_1).f1))).setCell ⟨gb103, 2, none⟩ (.int .i64 ((rd_T115 l0_0 x5_1).f2))).setCell ⟨gb103, 3, none⟩ (.int .i64 ((rd_T115 l0_0 x5_1).f3)))).cell? _ = some _ from hx107_0)); clear hn107_0; clear hn107_1; clear hn107_2; clear hn107_3; replace p107 := eq_true p107; replace q107 := eq_true q107))
                    repeat (go_quiet (first | ((with_reducible refine gate_dst (N := 6) rfl ?_); refine box_event ?hg (N := 6) ?hd (cs := #[.int .i64 0, .int .i64 0, .int .i64 0, .int .i64 0]) (t := 115) ?hr ?_; (case hd => rfl); (case hg => rfl); (case hr => first | (go_simp; done) | (go_simp; rfl)); intro gb103 hg w39 hbox hb; have n0_ := Aside0.mk (blk_below (g := gb101) (o := .cells #[.slice (some ad102) l0_0.length c0_0] 63 (0, 0)) qz5_ hb); have n1_ := Aside0.mk (below_step qz6_ hb); have n2_ := Aside0.mk (hbox); have n3_ := Aside0.mk ((by rw [hg]; exact (below_size qz6_) : w.heap.size ≤ gb103)); have n4_ := Aside0.mk ((by rw [hg]; exact (below_size qz6_) : w.heap.size ≤ gb103)); have n5_ := Aside0.mk ((by rw [hg]; exact Nat.ne_of_lt (blk_lt (g := gb101) (o := .cells #[.slice (some ad102) l0_0.length c0_0] 63 (0, 0)) qz5_) : gb101 ≠ gb103)); have n6_ := Aside0.mk ((by rw [hg]; exact Nat.ne_of_gt (blk_lt (g := gb101) (o := .cells #[.slice (some ad102) l0_0.length c0_0] 63 (0, 0)) qz5_) : gb103 ≠ gb101)); clear BK101; clear HB; have BK101 := n0_; have HB := n1_; have BK103 := n2_; have GW103 := n3_; have GE103 := n4_; have NB101_103 := n5_; have NB103_101 := n6_; clear n0_ n1_ n2_ n3_ n4_ n5_ n6_; clear hb hbox hg; have hnb40 := NB103_101.out; have hnc40 := NB101_103.out; have hcz41_0 : w39.cell? ⟨gb103, 0, none⟩ = some (.int .i64 0) := (blk_cell BK103.out 0).trans rfl; have hcz41_1 : w39.cell? ⟨gb103, 1, none⟩ = some (.int .i64 0) := (blk_cell BK103.out 1).trans rfl; have hcz41_2 : w39.cell? ⟨gb103, 2, none⟩ = some (.int .i64 0) := (blk_cell BK103.out 2).trans rfl; have hcz41_3 : w39.cell? ⟨gb103, 3, none⟩ = some (.int .i64 0) := (blk_cell BK103.out 3).trans rfl; have hfz41_0 := blk_frozen BK103.out 0; have hfz41_1 := blk_frozen BK103.out 1; have hfz41_2 := blk_frozen BK103.out 2; have hfz41_3 := blk_frozen BK103.out 3; have p107 : 0 ≤ (((rd_T115 l0_0 x5_1).f1) : Int) := of_decide_eq_true qz0_; have q107 : ((rd_T115 l0_0 x5_1).f1) < (l1.length : Int) := of_decide_eq_true qz0_; obtain ⟨ad107, e107, hx107_0⟩ := Kd.at_int HR1.out ((rd_T115 l0_0 x5_1).f1) p107 q107; cases e107; have hn107_0 : ad107.block ≠ gb103 := Nat.ne_of_lt (Nat.lt_of_lt_of_le qz8_ GW103.out); have hn107_1 : ad107.block ≠ gb103 := Nat.ne_of_lt (Nat.lt_of_lt_of_le qz8_ GW103.out); have hn107_2 : ad107.block ≠ gb103 := Nat.ne_of_lt (Nat.lt_of_lt_of_le qz8_ GW103.out); have hn107_3 : ad107.block ≠ gb103 := Nat.ne_of_lt (Nat.lt_of_lt_of_le qz8_ GW103.out); replace hx107_0 := (HB.out.cell (World.block_lt_of_cell? w _ hx107_0)).trans hx107_0; replace hx107_0 := (cell_far (p := ⟨gb103, 0, none⟩) qz9_ (.int .i64 ((rd_T115 l0_0 x5_1).f0))).trans hx107_0; replace hx107_0 := (cell_far (p := ⟨gb103, 1, none⟩) qz10_ (.int .i64 ((rd_T115 l0_0 x5_1).f1))).trans hx107_0; replace hx107_0 := (cell_far (p := ⟨gb103, 2, none⟩) qz11_ (.int .i64 ((rd_T115 l0_0 x5_1).f2))).trans hx107_0; replace hx107_0 := (cell_far (p := ⟨gb103, 3, none⟩) qz12_ (.int .i64 ((rd_T115 l0_0 x5_1).f3))).trans hx107_0; (try have hy107_0 := fun (n_ : Nat) => (show ((((((w39.drewN n_).setCell ⟨gb103, 0, none⟩ (.int .i64 ((rd_T115 l0_0 x5_1).f0))).setCell ⟨gb103, 1, none⟩ (.int .i64 ((rd_T115 l0_0 x5_1).f1))).setCell ⟨gb103, 2, none⟩ (.int .i64 ((rd_T115 l0_0 x5_1).f2))).setCell ⟨gb103, 3, none⟩ (.int .i64 ((rd_T115 l0_0 x5_1).f3)))).cell? _ = some _ from hx107_0)); clear hn107_0; clear hn107_1; clear hn107_2; clear hn107_3; replace p107 := eq_true p107; replace q107 := eq_true q107)); try go_wp2_with (first | ((with_reducible refine gate_dst (N := 6) rfl ?_); refine box_event ?hg (N := 6) ?hd (cs := #[.int .i64 0, .int .i64 0, .int .i64 0, .int .i64 0]) (t := 115) ?hr ?_; (case hd => rfl); (case hg => rfl); (case hr => first | (go_simp; done) | (go_simp; rfl)); intro gb103 hg w39 hbox hb; have n0_ := Aside0.mk (blk_below (g := gb101) (o := .cells #[.slice (some ad102) l0_0.length c0_0] 63 (0, 0)) qz5_ hb); have n1_ := Aside0.mk (below_step qz6_ hb); have n2_ := Aside0.mk (hbox); have n3_ := Aside0.mk ((by rw [hg]; exact (below_size qz6_) : w.heap.size ≤ gb103)); have n4_ := Aside0.mk ((by rw [hg]; exact (below_size qz6_) : w.heap.size ≤ gb103)); have n5_ := Aside0.mk ((by rw [hg]; exact Nat.ne_of_lt (blk_lt (g := gb101) (o := .cells #[.slice (some ad102) l0_0.length c0_0] 63 (0, 0)) qz5_) : gb101 ≠ gb103)); have n6_ := Aside0.mk ((by rw [hg]; exact Nat.ne_of_gt (blk_lt (g := gb101) (o := .cells #[.slice (some ad102) l0_0.length c0_0] 63 (0, 0)) qz5_) : gb103 ≠ gb101)); clear BK101; clear HB; have BK101 := n0_; have HB := n1_; have BK103 := n2_; have GW103 := n3_; have GE103 := n4_; have NB101_103 := n5_; have NB103_101 := n6_; clear n0_ n1_ n2_ n3_ n4_ n5_ n6_; clear hb hbox hg; have hnb40 := NB103_101.out; have hnc40 := NB101_103.out; have hcz41_0 : w39.cell? ⟨gb103, 0, none⟩ = some (.int .i64 0) := (blk_cell BK103.out 0).trans rfl; have hcz41_1 : w39.cell? ⟨gb103, 1, none⟩ = some (.int .i64 0) := (blk_cell BK103.out 1).trans rfl; have hcz41_2 : w39.cell? ⟨gb103, 2, none⟩ = some (.int .i64 0) := (blk_cell BK103.out 2).trans rfl; have hcz41_3 : w39.cell? ⟨gb103, 3, none⟩ = some (.int .i64 0) := (blk_cell BK103.out 3).trans rfl; have hfz41_0 := blk_frozen BK103.out 0; have hfz41_1 := blk_frozen BK103.out 1; have hfz41_2 := blk_frozen BK103.out 2; have hfz41_3 := blk_frozen BK103.out 3; have p107 : 0 ≤ (((rd_T115 l0_0 x5_1).f1) : Int) := of_decide_eq_true qz0_; have q107 : ((rd_T115 l0_0 x5_1).f1) < (l1.length : Int) := of_decide_eq_true qz0_; obtain ⟨ad107, e107, hx107_0⟩ := Kd.at_int HR1.out ((rd_T115 l0_0 x5_1).f1) p107 q107; cases e107; have hn107_0 : ad107.block ≠ gb103 := Nat.ne_of_lt (Nat.lt_of_lt_of_le qz8_ GW103.out); have hn107_1 : ad107.block ≠ gb103 := Nat.ne_of_lt (Nat.lt_of_lt_of_le qz8_ GW103.out); have hn107_2 : ad107.block ≠ gb103 := Nat.ne_of_lt (Nat.lt_of_lt_of_le qz8_ GW103.out); have hn107_3 : ad107.block ≠ gb103 := Nat.ne_of_lt (Nat.lt_of_lt_of_le qz8_ GW103.out); replace hx107_0 := (HB.out.cell (World.block_lt_of_cell? w _ hx107_0)).trans hx107_0; replace hx107_0 := (cell_far (p := ⟨gb103, 0, none⟩) qz9_ (.int .i64 ((rd_T115 l0_0 x5_1).f0))).trans hx107_0; replace hx107_0 := (cell_far (p := ⟨gb103, 1, none⟩) qz10_ (.int .i64 ((rd_T115 l0_0 x5_1).f1))).trans hx107_0; replace hx107_0 := (cell_far (p := ⟨gb103, 2, none⟩) qz11_ (.int .i64 ((rd_T115 l0_0 x5_1).f2))).trans hx107_0; replace hx107_0 := (cell_far (p := ⟨gb103, 3, none⟩) qz12_ (.int .i64 ((rd_T115 l0_0 x5_1).f3))).trans hx107_0; (try have hy107_0 := fun (n_ : Nat) => (show ((((((w39.drewN n_).setCell ⟨gb103, 0, none⟩ (.int .i64 ((rd_T115 l0_0 x5_1).f0))).setCell ⟨gb103, 1, none⟩ (.int .i64 ((rd_T115 l0_0 x5_1).f1))).setCell ⟨gb103, 2, none⟩ (.int .i64 ((rd_T115 l0_0 x5_1).f2))).setCell ⟨gb103, 3, none⟩ (.int .i64 ((rd_T115 l0_0 x5_1).f3)))).cell? _ = some _ from hx107_0)); clear hn107_0; clear hn107_1; clear hn107_2; clear hn107_3; replace p107 := eq_true p107; replace q107 := eq_true q107)))
                    go_roundg k1
                    case measure => have := HK1.out; omega
                    case rel => exact ⟨(wrap64 (x5_1 + 1)), qz2_, H', ⟨by have := HK1.out; omega⟩, ⟨by (with_reducible repeat (first | refine blk_drewN ?_ _ | refine blk_drew ?_ | refine blk_alloc ?_ _)); refine blk_far ?_ NB101_103.out _; (with_reducible repeat (first | refine blk_drewN ?_ _ | refine blk_drew ?_ | refine blk_alloc ?_ _)); refine blk_far ?_ NB101_103.out _; (with_reducible repeat (first | refine blk_drewN ?_ _ | refine blk_drew ?_ | refine blk_alloc ?_ _)); refine blk_far ?_ NB101_103.out _; (with_reducible repeat (first | refine blk_drewN ?_ _ | refine blk_drew ?_ | refine blk_alloc ?_ _)); refine blk_far ?_ NB101_103.out _; (with_reducible repeat (first | refine blk_drewN ?_ _ | refine blk_drew ?_ | refine blk_alloc ?_ _)); exact BK101.out⟩, ⟨by repeat (first | (with_reducible first | exact HB.out | apply below_alloc | apply pw_below_drewN | apply below_drew1 | refine below_set ?_ GE101.out | refine below_set ?_ GE103.out) | exact HB.out)⟩⟩
                · rw [if_neg c32] at H
                  exact absurd H (by simp)
              · rw [if_neg c31] at H
                exact absurd H (by simp)
            · rw [if_neg c30] at H
              have c30b0 : (((rd_T115 l0_0 x5_1).f0) == 8) = false := beq_eq_false_iff_ne.mpr c30
              have c30b1 : (((rd_T115 l0_0 x5_1).f0) != 8) = true := bne_iff_ne.mpr c30
              have H' := Aside0.mk H
              clear H
              have hcz42_0 : wr.cell? ⟨gb101, 0, none⟩ = some (.slice A0_0 l0_0.length c0_0) := (blk_cell BK101.out 0).trans rfl
              have hfz42_0 := blk_frozen BK101.out 0
              have p102 : 0 ≤ (x5_1 : Int) := of_decide_eq_true qz0_
              have q102 : x5_1 < (l0_0.length : Int) := of_decide_eq_true qz0_
              obtain ⟨ad102, e102, hx102_0, hx102_1, hx102_2, hx102_3⟩ := at_T115 HR0_0.out x5_1 p102 q102
              cases e102
              replace hx102_0 := (HB.out.cell (World.block_lt_of_cell? w _ hx102_0)).trans hx102_0
              replace hx102_1 := (HB.out.cell (World.block_lt_of_cell? w _ hx102_1)).trans hx102_1
              replace hx102_2 := (HB.out.cell (World.block_lt_of_cell? w _ hx102_2)).trans hx102_2
              replace hx102_3 := (HB.out.cell (World.block_lt_of_cell? w _ hx102_3)).trans hx102_3
              replace p102 := eq_true p102
              replace q102 := eq_true q102
              go_wp2_with (first | ((with_reducible refine gate_dst (N := 6) rfl ?_); refine box_event ?hg (N := 6) ?hd (cs := #[.int .i64 0, .int .i64 0, .int .i64 0, .int .i64 0]) (t := 115) ?hr ?_; (case hd => rfl); (case hg => rfl); (case hr => first | (go_simp; done) | (go_simp; rfl)); intro gb103 hg w43 hbox hb; have n0_ := Aside0.mk (blk_below (g := gb101) (o := .cells #[.slice (some ad102) l0_0.length c0_0] 63 (0, 0)) qz5_ hb); have n1_ := Aside0.mk (below_step qz6_ hb); have n2_ := Aside0.mk (hbox); have n3_ := Aside0.mk ((by rw [hg]; exact (below_size qz6_) : w.heap.size ≤ gb103)); have n4_ := Aside0.mk ((by rw [hg]; exact (below_size qz6_) : w.heap.size ≤ gb103)); have n5_ := Aside0.mk ((by rw [hg]; exact Nat.ne_of_lt (blk_lt (g := gb101) (o := .cells #[.slice (some ad102) l0_0.length c0_0] 63 (0, 0)) qz5_) : gb101 ≠ gb103)); have n6_ := Aside0.mk ((by rw [hg]; exact Nat.ne_of_gt (blk_lt (g := gb101) (o := .cells #[.slice (some ad102) l0_0.length c0_0] 63 (0, 0)) qz5_) : gb103 ≠ gb101)); clear BK101; clear HB; have BK101 := n0_; have HB := n1_; have BK103 := n2_; have GW103 := n3_; have GE103 := n4_; have NB101_103 := n5_; have NB103_101 := n6_; clear n0_ n1_ n2_ n3_ n4_ n5_ n6_; clear hb hbox hg; have hnb44 := NB103_101.out; have hnc44 := NB101_103.out; have hcz45_0 : w43.cell? ⟨gb103, 0, none⟩ = some (.int .i64 0) := (blk_cell BK103.out 0).trans rfl; have hcz45_1 : w43.cell? ⟨gb103, 1, none⟩ = some (.int .i64 0) := (blk_cell BK103.out 1).trans rfl; have hcz45_2 : w43.cell? ⟨gb103, 2, none⟩ = some (.int .i64 0) := (blk_cell BK103.out 2).trans rfl; have hcz45_3 : w43.cell? ⟨gb103, 3, none⟩ = some (.int .i64 0) := (blk_cell BK103.out 3).trans rfl; have hfz45_0 := blk_frozen BK103.out 0; have hfz45_1 := blk_frozen BK103.out 1; have hfz45_2 := blk_frozen BK103.out 2; have hfz45_3 := blk_frozen BK103.out 3))
              repeat (go_quiet (first | ((with_reducible refine gate_dst (N := 6) rfl ?_); refine box_event ?hg (N := 6) ?hd (cs := #[.int .i64 0, .int .i64 0, .int .i64 0, .int .i64 0]) (t := 115) ?hr ?_; (case hd => rfl); (case hg => rfl); (case hr => first | (go_simp; done) | (go_simp; rfl)); intro gb103 hg w43 hbox hb; have n0_ := Aside0.mk (blk_below (g := gb101) (o := .cells #[.slice (some ad102) l0_0.length c0_0] 63 (0, 0)) qz5_ hb); have n1_ := Aside0.mk (below_step qz6_ hb); have n2_ := Aside0.mk (hbox); have n3_ := Aside0.mk ((by rw [hg]; exact (below_size qz6_) : w.heap.size ≤ gb103)); have n4_ := Aside0.mk ((by rw [hg]; exact (below_size qz6_) : w.heap.size ≤ gb103)); have n5_ := Aside0.mk ((by rw [hg]; exact Nat.ne_of_lt (blk_lt (g := gb101) (o := .cells #[.slice (some ad102) l0_0.length c0_0] 63 (0, 0)) qz5_) : gb101 ≠ gb103)); have n6_ := Aside0.mk ((by rw [hg]; exact Nat.ne_of_gt (blk_lt (g := gb101) (o := .cells #[.slice (some ad102) l0_0.length c0_0] 63 (0, 0)) qz5_) : gb103 ≠ gb101)); clear BK101; clear HB; have BK101 := n0_; have HB := n1_; have BK103 := n2_; have GW103 := n3_; have GE103 := n4_; have NB101_103 := n5_; have NB103_101 := n6_; clear n0_ n1_ n2_ n3_ n4_ n5_ n6_; clear hb hbox hg; have hnb44 := NB103_101.out; have hnc44 := NB101_103.out; have hcz45_0 : w43.cell? ⟨gb103, 0, none⟩ = some (.int .i64 0) := (blk_cell BK103.out 0).trans rfl; have hcz45_1 : w43.cell? ⟨gb103, 1, none⟩ = some (.int .i64 0) := (blk_cell BK103.out 1).trans rfl; have hcz45_2 : w43.cell? ⟨gb103, 2, none⟩ = some (.int .i64 0) := (blk_cell BK103.out 2).trans rfl; have hcz45_3 : w43.cell? ⟨gb103, 3, none⟩ = some (.int .i64 0) := (blk_cell BK103.out 3).trans rfl; have hfz45_0 := blk_frozen BK103.out 0; have hfz45_1 := blk_frozen BK103.out 1; have hfz45_2 := blk_frozen BK103.out 2; have hfz45_3 := blk_frozen BK103.out 3)); try go_wp2_with (first | ((with_reducible refine gate_dst (N := 6) rfl ?_); refine box_event ?hg (N := 6) ?hd (cs := #[.int .i64 0, .int .i64 0, .int .i64 0, .int .i64 0]) (t := 115) ?hr ?_; (case hd => rfl); (case hg => rfl); (case hr => first | (go_simp; done) | (go_simp; rfl)); intro gb103 hg w43 hbox hb; have n0_ := Aside0.mk (blk_below (g := gb101) (o := .cells #[.slice (some ad102) l0_0.length c0_0] 63 (0, 0)) qz5_ hb); have n1_ := Aside0.mk (below_step qz6_ hb); have n2_ := Aside0.mk (hbox); have n3_ := Aside0.mk ((by rw [hg]; exact (below_size qz6_) : w.heap.size ≤ gb103)); have n4_ := Aside0.mk ((by rw [hg]; exact (below_size qz6_) : w.heap.size ≤ gb103)); have n5_ := Aside0.mk ((by rw [hg]; exact Nat.ne_of_lt (blk_lt (g := gb101) (o := .cells #[.slice (some ad102) l0_0.length c0_0] 63 (0, 0)) qz5_) : gb101 ≠ gb103)); have n6_ := Aside0.mk ((by rw [hg]; exact Nat.ne_of_gt (blk_lt (g := gb101) (o := .cells #[.slice (some ad102) l0_0.length c0_0] 63 (0, 0)) qz5_) : gb103 ≠ gb101)); clear BK101; clear HB; have BK101 := n0_; have HB := n1_; have BK103 := n2_; have GW103 := n3_; have GE103 := n4_; have NB101_103 := n5_; have NB103_101 := n6_; clear n0_ n1_ n2_ n3_ n4_ n5_ n6_; clear hb hbox hg; have hnb44 := NB103_101.out; have hnc44 := NB101_103.out; have hcz45_0 : w43.cell? ⟨gb103, 0, none⟩ = some (.int .i64 0) := (blk_cell BK103.out 0).trans rfl; have hcz45_1 : w43.cell? ⟨gb103, 1, none⟩ = some (.int .i64 0) := (blk_cell BK103.out 1).trans rfl; have hcz45_2 : w43.cell? ⟨gb103, 2, none⟩ = some (.int .i64 0) := (blk_cell BK103.out 2).trans rfl; have hcz45_3 : w43.cell? ⟨gb103, 3, none⟩ = some (.int .i64 0) := (blk_cell BK103.out 3).trans rfl; have hfz45_0 := blk_frozen BK103.out 0; have hfz45_1 := blk_frozen BK103.out 1; have hfz45_2 := blk_frozen BK103.out 2; have hfz45_3 := blk_frozen BK103.out 3)))
              go_roundg k1
              case measure => have := HK1.out; omega
              case rel => exact ⟨(wrap64 (x5_1 + 1)), qz2_, H', ⟨by have := HK1.out; omega⟩, ⟨by (with_reducible repeat (first | refine blk_drewN ?_ _ | refine blk_drew ?_ | refine blk_alloc ?_ _)); refine blk_far ?_ NB101_103.out _; (with_reducible repeat (first | refine blk_drewN ?_ _ | refine blk_drew ?_ | refine blk_alloc ?_ _)); refine blk_far ?_ NB101_103.out _; (with_reducible repeat (first | refine blk_drewN ?_ _ | refine blk_drew ?_ | refine blk_alloc ?_ _)); refine blk_far ?_ NB101_103.out _; (with_reducible repeat (first | refine blk_drewN ?_ _ | refine blk_drew ?_ | refine blk_alloc ?_ _)); refine blk_far ?_ NB101_103.out _; (with_reducible repeat (first | refine blk_drewN ?_ _ | refine blk_drew ?_ | refine blk_alloc ?_ _)); exact BK101.out⟩, ⟨by repeat (first | (with_reducible first | exact HB.out | apply below_alloc | apply pw_below_drewN | apply below_drew1 | refine below_set ?_ GE101.out | refine below_set ?_ GE103.out) | exact HB.out)⟩⟩
        · rw [if_neg c5] at H
          exact absurd H (by simp)
      · rw [if_neg c4] at H
        have c4b0 : decide (x5_1 < (l0_0.length : Int)) = false := decide_eq_false c4
        clear c4
        obtain rfl := Option.some.inj H
        have hcz46_0 : wr.cell? ⟨gb101, 0, none⟩ = some (.slice A0_0 l0_0.length c0_0) := (blk_cell BK101.out 0).trans rfl
        have hfz46_0 := blk_frozen BK101.out 0
        go_wp2
        repeat (go_quiet (fail); try go_wp2)
        go_ret
        exact ⟨by first | rfl | (simp [errW_none, errW_some] <;> rfl) | (simp [*, errW_none, errW_some] <;> rfl), by repeat (first | (with_reducible first | exact HB.out | apply below_alloc | apply pw_below_drewN | apply below_drew1 | refine below_set ?_ GE101.out) | exact HB.out)⟩

end Go.Proofs.Ytekijbcblajjbaa.PT
end
section
namespace Go.Proofs.Ytekijbcblajjbaa.PT
open Go.RowKit Go.Proofs.YtekijbcblajjbaaW.PrintWords Go.Proofs.YtekijbcblajjbaaW.PrintLast Go.Proofs.YtekijbcblajjbaaW.PrintMore
attribute [local go_sem] max2_int min2_int max_two min_two max_three min_three max_four min_four   -- for this text's walks alone
set_option linter.unusedVariables false
set_option linter.unusedSimpArgs false

/-! ### spec_RunCircuit: function 34 -/
def spec_RunCircuit.j0 : Nat → List Int → List Int → Bool → List (S115) → Option (List Int × Int)
  | 0, _, _, _, _ => none
  | k + 1, x1, x2, x17, x102000 => if x17 = true then (some ((([] : List Int)), 2)) else ((spec_l11Ask.f k x102000 x1 x2).bind fun t105 => (if t105 = 0 then ((spec_l11Run.f k x102000 x1 x2).bind fun t109 => ((spec_l11Fits.f k x102000 t109).bind fun t112 => (if t112 = true then (some (t109, 0)) else (some ((([] : List Int)), 15))))) else (some ((([] : List Int)), t105))))
def spec_RunCircuit.f (k : Nat) (l0_0 : List (S115)) (l1 : List Int) (l2 : List Int) : Option (List Int × Int) := if (l1.length : Int) > 4096 then (spec_RunCircuit.j0 k l1 l2 true l0_0) else (spec_RunCircuit.j0 k l1 l2 (decide ((l2.length : Int) > 4096)) l0_0)
theorem spec_RunCircuit.mono_l : ∀ k, (∀ y0 y1 y2 y3, LeO (spec_RunCircuit.j0 k y0 y1 y2 y3) (spec_RunCircuit.j0 (k + 1) y0 y1 y2 y3))
  | 0 => fun _ _ _ _ r h => by simp [spec_RunCircuit.j0] at h
  | k + 1 => by
    have ih0 := spec_RunCircuit.mono_l k
    · intro y0 y1 y2 y3
      unfold spec_RunCircuit.j0
      repeat' first
      | (with_reducible exact ih0 _ _ _ _)
      | (with_reducible exact spec_l11Ask.mono _ _ _ _)
      | (with_reducible exact spec_l11Fits.mono _ _ _)
      | (with_reducible exact spec_l11Run.mono _ _ _ _)
      | (with_reducible exact LeO.refl _)
      | (with_reducible exact LeO.none _)
      | (with_reducible refine LeO.ite ?_ ?_)
      | (with_reducible refine LeO.bind ?_ (fun _ => ?_))
      | exact ih0 _ _ _ _
      | exact spec_l11Ask.mono _ _ _ _
      | exact spec_l11Fits.mono _ _ _
      | exact spec_l11Run.mono _ _ _ _
      | exact LeO.none _
      | refine LeO.ite ?_ ?_
      | refine LeO.bind ?_ (fun _ => ?_)
theorem spec_RunCircuit.mono : ∀ a0 a1 a2 k, LeO (spec_RunCircuit.f k a0 a1 a2) (spec_RunCircuit.f (k + 1) a0 a1 a2) := by
  intro a0 a1 a2 k
  have ih0 := spec_RunCircuit.mono_l k
  unfold spec_RunCircuit.f
  repeat' first
      | (with_reducible exact ih0 _ _ _ _)
      | (with_reducible exact spec_l11Ask.mono _ _ _ _)
      | (with_reducible exact spec_l11Fits.mono _ _ _)
      | (with_reducible exact spec_l11Run.mono _ _ _ _)
      | (with_reducible exact LeO.refl _)
      | (with_reducible exact LeO.none _)
      | (with_reducible refine LeO.ite ?_ ?_)
      | (with_reducible refine LeO.bind ?_ (fun _ => ?_))
      | exact ih0 _ _ _ _
      | exact spec_l11Ask.mono _ _ _ _
      | exact spec_l11Fits.mono _ _ _
      | exact spec_l11Run.mono _ _ _ _
      | exact LeO.none _
      | refine LeO.ite ?_ ?_
      | refine LeO.bind ?_ (fun _ => ?_)
set_option maxHeartbeats 8000000 in
set_option maxRecDepth 100000 in
theorem spec_RunCircuit.calls (k : Nat) (A0_0 : Option Addr) (c0_0 : Nat) (l0_0 : List (S115)) (A1 : Option Addr) (c1 : Nat) (l1 : List Int) (A2 : Option Addr) (c2 : Nat) (l2 : List Int) (r1 : List Int) (r2 : Int) (w : World) (hr0_0 : Kd.C k115 w A0_0 l0_0.length l0_0) (hc0_0 : l0_0.length ≤ c0_0) (hr1 : Kd.C (Kd.int .i64) w A1 l1.length l1) (hc1 : l1.length ≤ c1) (hr2 : Kd.C (Kd.int .i64) w A2 l2.length l2) (hc2 : l2.length ≤ c2) (h : spec_RunCircuit.f k l0_0 l1 l2 = some (r1, r2)) :
    Calls Try.prog 34 #[.agg #[.slice A0_0 l0_0.length c0_0], .slice A1 l1.length c1, .slice A2 l2.length c2] w fun e w' => ∃ v0_ : Value, e = .returned (.tuple #[v0_, .int .i64 r2]) ∧ Kd.R (Kd.int .i64) 3 w' w.heap.size (fun _ => True) v0_ r1 ∧ Below w.heap.size w w' := by
  have hu63 := Try.underlying63
  have HR0_0 := Aside0.mk hr0_0
  have HC0_0 := Aside0.mk hc0_0
  clear hr0_0 hc0_0
  have HR1 := Aside0.mk hr1
  have HC1 := Aside0.mk hc1
  clear hr1 hc1
  have HR2 := Aside0.mk hr2
  have HC2 := Aside0.mk hc2
  clear hr2 hc2
  have HB := Aside0.mk (Below.refl w.heap.size w)
  have H : (if (l1.length : Int) > 4096 then (spec_RunCircuit.j0 k l1 l2 true l0_0) else (spec_RunCircuit.j0 k l1 l2 (decide ((l2.length : Int) > 4096)) l0_0)) = some (r1, r2) := h
  clear h
  have HC4 := Aside0.mk H
  clear H
  go_enter Try.func34, Try.ntmps34
  go_upto_region 1 with (first | ((with_reducible refine gate_dst (N := 3) rfl ?_); (try (refine gate_guard (by rfl) ?_; dsimp only)); refine box_event ?hg (N := 3) ?hd (cs := #[.slice A0_0 l0_0.length c0_0]) (t := 63) ?hr ?_; (case hd => rfl); (case hg => rfl); (case hr => first | (go_simp; done) | (go_simp; rfl)); intro gb101 hg w5 hbox hb; have n0_ := Aside0.mk (below_step qz1_ hb); have n1_ := Aside0.mk (hbox); have n2_ := Aside0.mk ((by rw [hg]; exact (below_size qz1_) : w.heap.size ≤ gb101)); have n3_ := Aside0.mk ((by rw [hg]; exact (below_size qz1_) : w.heap.size ≤ gb101)); clear HB; have HB := n0_; have BK101 := n1_; have GW101 := n2_; have GE101 := n3_; clear n0_ n1_ n2_ n3_; clear hb hbox hg))
  (try simp only [Act.put, List.setIfInBounds_toArray, List.set_cons_zero, List.set_cons_succ])
  go_cut [17] (fun v17 wc => ∃ (kq : Nat) (x17_3 : Bool), v17 = .bool x17_3 ∧ Aside0 (spec_RunCircuit.j0 kq l1 l2 x17_3 l0_0 = some (r1, r2)) ∧ Aside0 (kq ≤ k) ∧ Aside0 (wc.heap[gb101]? = some (.cells #[(.slice A0_0 l0_0.length c0_0)] 63 (0, 0))) ∧ Aside0 (Below w.heap.size w wc))
  case first =>
    have H := HC4.out
    clear HC4
    by_cases c6 : (l1.length : Int) > 4096
    · rw [if_pos c6] at H
      have c6b0 : decide (4096 < (l1.length : Int)) = true := decide_eq_true c6
      have c6b1 : decide (4096 < l1.length) = true := decide_eq_true (by omega)
      clear c6
      (first | rw [c6b0] | (simp only [i64_w, i32_w]; rw [c6b0]) | skip)
      have H' := Aside0.mk H
      clear H
      go_wp2
      go_meet
      case rel => exact ⟨_, (true), qz2_, H', ⟨by first | omega | exact Nat.le_refl _⟩, ⟨by (with_reducible repeat (first | refine blk_drewN ?_ _ | refine blk_drew ?_ | refine blk_alloc ?_ _)); exact BK101.out⟩, ⟨by repeat (first | (with_reducible first | exact HB.out | apply below_alloc | apply pw_below_drewN | apply below_drew1 | refine below_set ?_ GE101.out) | exact HB.out)⟩⟩
    · rw [if_neg c6] at H
      have c6b0 : decide (4096 < (l1.length : Int)) = false := decide_eq_false c6
      have c6b1 : decide (4096 < l1.length) = false := decide_eq_false (by omega)
      clear c6
      (first | rw [c6b0] | (simp only [i64_w, i32_w]; rw [c6b0]) | skip)
      have H' := Aside0.mk H
      clear H
      go_wp2
      go_meet
      case rel => exact ⟨_, (decide ((l2.length : Int) > 4096)), qz2_, H', ⟨by first | omega | exact Nat.le_refl _⟩, ⟨by (with_reducible repeat (first | refine blk_drewN ?_ _ | refine blk_drew ?_ | refine blk_alloc ?_ _)); exact BK101.out⟩, ⟨by repeat (first | (with_reducible first | exact HB.out | apply below_alloc | apply pw_below_drewN | apply below_drew1 | refine below_set ?_ GE101.out) | exact HB.out)⟩⟩
  case rest =>
    clear HC4
    try clear c1
    try clear c2
    try clear p2
    try clear c3
    try clear c6
    try clear c6b0
    try clear c6b1
    obtain ⟨kq, x17_3, rfl, HA, HJ3, BK101, HB⟩ := hcut
    cases kq with
    | zero => exact absurd HA.out (by simp [spec_RunCircuit.j0])
    | succ kj3 =>
      have H := HA.out
      clear HA
      simp only [spec_RunCircuit.j0] at H
      by_cases c7 : x17_3 = true
      · subst c7
        have H1 : (some ((([] : List Int)), 2)) = some (r1, r2) := by rw [if_pos rfl] at H; exact H
        clear H
        have H := H1
        clear H1
        obtain ⟨y102, hy102⟩ : ∃ y_ : List Int, y_ = (([] : List Int)) := ⟨_, rfl⟩
        replace H : (some (y102, 2)) = some (r1, r2) := by first | (rw [hy102]; with_reducible exact H) | (have H2_ := (Option.bind_some _ _).symm.trans H; rw [hy102]; with_reducible exact H2_) | (have H2_ := (Option.bind_some _ _).symm.trans H; with_reducible exact H2_) | with_reducible exact H | (rw [hy102]; exact H) | exact H
        have Ny102 := Aside0.mk hy102
        clear hy102
        simp only [Option.some.injEq, Prod.mk.injEq] at H
        obtain ⟨rfl, rfl⟩ := H
        go_wp2_with (first | ((with_reducible refine gate_dst (N := 18) rfl ?_); (try (refine gate_guard (by rfl) ?_; dsimp only)); refine Kd.R_lit (Kd.int .i64) _ 3 ?hg (N := 18) ?hd (xs := ([] : List Int)) (inner := []) (ok := fun _ => True) (okp := fun _ => True) ?hr ?hp (fun _ hk => hk) trivial (Below.refl _ _) (Nat.le_refl _) (by simp) ?_; (case hd => rfl); (case hg => rfl); (case hr => first | (go_simp; done) | (go_simp; rfl)); (case hp => exact (Reps.none _ _)); intro v103 w8 ho9 hb hg_ hnew_; clear hg_ hnew_; (first | rw [← Ny102.out] at ho9 | (simp only [Int.reduceToNat] at ho9; rw [← Ny102.out] at ho9)); have n0_ := Aside0.mk (Kd.R_lower ho9 (below_size qz6_)); have n1_ := Aside0.mk (blk_below (g := gb101) (o := .cells #[.slice A0_0 l0_0.length c0_0] 63 (0, 0)) qz5_ hb); have n2_ := Aside0.mk (below_step qz6_ hb); clear BK101; clear HB; have HO104 := n0_; have BK101 := n1_; have HB := n2_; clear n0_ n1_ n2_; clear hb ho9))
        go_ret2
        exact ⟨_, by first | rfl | (simp [errW_none, errW_some] <;> rfl) | (simp [*, errW_none, errW_some] <;> rfl), by (with_reducible repeat (first | apply Kd.R_alloc | apply Kd.R_drewN | apply Kd.R_drew)); exact HO104.out, by repeat (first | (with_reducible first | exact HB.out | apply below_alloc | apply pw_below_drewN | apply below_drew1 | refine below_set ?_ GE101.out) | exact HB.out)⟩
      · replace c7 := Bool.eq_false_iff.mpr c7
        subst c7
        have H1 : ((spec_l11Ask.f kj3 l0_0 l1 l2).bind fun t105 => (if t105 = 0 then ((spec_l11Run.f kj3 l0_0 l1 l2).bind fun t109 => ((spec_l11Fits.f kj3 l0_0 t109).bind fun t112 => (if t112 = true then (some (t109, 0)) else (some ((([] : List Int)), 15))))) else (some ((([] : List Int)), t105)))) = some (r1, r2) := by rw [if_neg (show ¬ (false = true) by decide)] at H; exact H
        clear H
        have H := H1
        clear H1
        replace H := Option.bind_eq_some_iff.mp H
        obtain ⟨t105, A100, H⟩ := H
        replace H : (if t105 = 0 then ((spec_l11Run.f kj3 l0_0 l1 l2).bind fun t109 => ((spec_l11Fits.f kj3 l0_0 t109).bind fun t112 => (if t112 = true then (some (t109, 0)) else (some ((([] : List Int)), 15))))) else (some ((([] : List Int)), t105))) = some (r1, r2) := H
        have A10 := Aside0.mk A100
        clear A100
        by_cases c11 : t105 = 0
        · rw [if_pos c11] at H
          have c11b0 : (t105 == 0) = true := beq_iff_eq.mpr c11
          have c11b1 : (t105 != 0) = false := bne_eq_false_iff_eq.mpr c11
          clear c11
          replace H := Option.bind_eq_some_iff.mp H
          obtain ⟨t109, A120, H⟩ := H
          replace H : ((spec_l11Fits.f kj3 l0_0 t109).bind fun t112 => (if t112 = true then (some (t109, 0)) else (some ((([] : List Int)), 15)))) = some (r1, r2) := H
          have A12 := Aside0.mk A120
          clear A120
          replace H := Option.bind_eq_some_iff.mp H
          obtain ⟨t112, A130, H⟩ := H
          replace H : (if t112 = true then (some (t109, 0)) else (some ((([] : List Int)), 15))) = some (r1, r2) := H
          have A13 := Aside0.mk A130
          clear A130
          by_cases c14 : t112 = true
          · subst c14
            have H1 : (some (t109, 0)) = some (r1, r2) := by rw [if_pos rfl] at H; exact H
            clear H
            have H := H1
            clear H1
            simp only [Option.some.injEq, Prod.mk.injEq] at H
            obtain ⟨rfl, rfl⟩ := H
            have hcz15_0 : wc.cell? ⟨gb101, 0, none⟩ = some (.slice A0_0 l0_0.length c0_0) := (blk_cell BK101.out 0).trans rfl
            have hfz15_0 := blk_frozen BK101.out 0
            go_wp2_with (first | ((with_reducible refine gate_callee (f := 69) rfl ?_); refine goesL_ (some 22) rfl rfl Try.func69 (by kernel_rfl) rfl #[.agg #[.slice A0_0 l0_0.length c0_0], .slice A1 l1.length c1, .slice A2 l2.length c2] rfl qz4_ ?_; (with_reducible refine (spec_l11Ask.calls kj3 _ _ l0_0 _ _ l1 _ _ l2 t105 _ ?side1 ?side2 ?side3 ?side4 ?side5 ?side6 A10.out).mono ?_); (case side1 => repeat (first | exact (Kd.C_below HR0_0.out HB.out) | (with_reducible refine Kd.C_alloc ?_ _) | (with_reducible refine Kd.C_drewN ?_ _) | (with_reducible refine Kd.C_drew ?_))); (case side2 => exact HC0_0.out); (case side3 => repeat (first | exact (Kd.C_below HR1.out HB.out) | (with_reducible refine Kd.C_alloc ?_ _) | (with_reducible refine Kd.C_drewN ?_ _) | (with_reducible refine Kd.C_drew ?_))); (case side4 => exact HC1.out); (case side5 => repeat (first | exact (Kd.C_below HR2.out HB.out) | (with_reducible refine Kd.C_alloc ?_ _) | (with_reducible refine Kd.C_drewN ?_ _) | (with_reducible refine Kd.C_drew ?_))); (case side6 => exact HC2.out); rintro e w16 ⟨rfl, hb⟩; refine ⟨_, rfl, ?_⟩; have n0_ := Aside0.mk (blk_below (g := gb101) (o := .cells #[.slice A0_0 l0_0.length c0_0] 63 (0, 0)) qz5_ hb); have n1_ := Aside0.mk (below_step qz6_ hb); clear BK101; clear HB; have BK101 := n0_; have HB := n1_; clear n0_ n1_; (try clear hb); (try clear hb2); (try clear hk); (try clear hi); have hcz17_0 : w16.cell? ⟨gb101, 0, none⟩ = some (.slice A0_0 l0_0.length c0_0) := (blk_cell BK101.out 0).trans rfl; have hfz17_0 := blk_frozen BK101.out 0) | ((with_reducible refine gate_callee (f := 70) rfl ?_); refine goesL_ (some 30) rfl rfl Try.func70 (by kernel_rfl) rfl #[.agg #[.slice A0_0 l0_0.length c0_0], .slice A1 l1.length c1, .slice A2 l2.length c2] rfl qz4_ ?_; (with_reducible refine (spec_l11Run.calls kj3 _ _ l0_0 _ _ l1 _ _ l2 t109 _ ?side1 ?side2 ?side3 ?side4 ?side5 ?side6 A12.out).mono ?_); (case side1 => repeat (first | exact (Kd.C_below HR0_0.out HB.out) | (with_reducible refine Kd.C_alloc ?_ _) | (with_reducible refine Kd.C_drewN ?_ _) | (with_reducible refine Kd.C_drew ?_))); (case side2 => exact HC0_0.out); (case side3 => repeat (first | exact (Kd.C_below HR1.out HB.out) | (with_reducible refine Kd.C_alloc ?_ _) | (with_reducible refine Kd.C_drewN ?_ _) | (with_reducible refine Kd.C_drew ?_))); (case side4 => exact HC1.out); (case side5 => repeat (first | exact (Kd.C_below HR2.out HB.out) | (with_reducible refine Kd.C_alloc ?_ _) | (with_reducible refine Kd.C_drewN ?_ _) | (with_reducible refine Kd.C_drew ?_))); (case side6 => exact HC2.out); rintro e w18 ⟨v110, rfl, ho0, hb⟩; refine ⟨_, rfl, ?_⟩; have n0_ := Aside0.mk (Kd.R_lower ho0 (below_size qz6_)); have n1_ := Aside0.mk (blk_below (g := gb101) (o := .cells #[.slice A0_0 l0_0.length c0_0] 63 (0, 0)) qz5_ hb); have n2_ := Aside0.mk (below_step qz6_ hb); clear BK101; clear HB; have HO111 := n0_; have BK101 := n1_; have HB := n2_; clear n0_ n1_ n2_; (try clear hb); (try clear hb2); (try clear hk); (try clear hi); (try clear ho0); have hcz19_0 : w18.cell? ⟨gb101, 0, none⟩ = some (.slice A0_0 l0_0.length c0_0) := (blk_cell BK101.out 0).trans rfl; have hfz19_0 := blk_frozen BK101.out 0; obtain ⟨Ao20, co20, eo20⟩ := Kd.R_slice HO111.out; subst eo20) | ((with_reducible refine gate_callee (f := 71) rfl ?_); refine goesL_ (some 33) rfl rfl Try.func71 (by kernel_rfl) rfl #[.agg #[.slice A0_0 l0_0.length c0_0], .slice Ao20 t109.length co20] rfl qz4_ ?_; (with_reducible refine (spec_l11Fits.calls kj3 _ _ l0_0 _ _ t109 true _ ?side1 ?side2 ?side3 ?side4 A13.out).mono ?_); (case side1 => repeat (first | exact (Kd.C_below HR0_0.out HB.out) | (with_reducible refine Kd.C_alloc ?_ _) | (with_reducible refine Kd.C_drewN ?_ _) | (with_reducible refine Kd.C_drew ?_))); (case side2 => exact HC0_0.out); (case side3 => repeat (first | exact (Kd.R_reads' HO111.out).2.2 | (with_reducible refine Kd.C_alloc ?_ _) | (with_reducible refine Kd.C_drewN ?_ _) | (with_reducible refine Kd.C_drew ?_))); (case side4 => exact (Kd.R_reads' HO111.out).2.1); rintro e w21 ⟨rfl, hb⟩; refine ⟨_, rfl, ?_⟩; have n0_ := Aside0.mk (Kd.R_below qz41_ hb); have n1_ := Aside0.mk (blk_below (g := gb101) (o := .cells #[.slice A0_0 l0_0.length c0_0] 63 (0, 0)) qz5_ hb); have n2_ := Aside0.mk (below_step qz6_ hb); clear HO111; clear BK101; clear HB; have HO111 := n0_; have BK101 := n1_; have HB := n2_; clear n0_ n1_ n2_; (try clear hb); (try clear hb2); (try clear hk); (try clear hi)))
            go_ret2
            exact ⟨_, by first | rfl | (simp [errW_none, errW_some] <;> rfl) | (simp [*, errW_none, errW_some] <;> rfl), by (with_reducible repeat (first | apply Kd.R_alloc | apply Kd.R_drewN | apply Kd.R_drew)); exact HO111.out, by repeat (first | (with_reducible first | exact HB.out | apply below_alloc | apply pw_below_drewN | apply below_drew1 | refine below_set ?_ GE101.out) | exact HB.out)⟩
          · replace c14 := Bool.eq_false_iff.mpr c14
            subst c14
            have H1 : (some ((([] : List Int)), 15)) = some (r1, r2) := by rw [if_neg (show ¬ (false = true) by decide)] at H; exact H
            clear H
            have H := H1
            clear H1
            obtain ⟨y113, hy113⟩ : ∃ y_ : List Int, y_ = (([] : List Int)) := ⟨_, rfl⟩
            replace H : (some (y113, 15)) = some (r1, r2) := by first | (rw [hy113]; with_reducible exact H) | (have H2_ := (Option.bind_some _ _).symm.trans H; rw [hy113]; with_reducible exact H2_) | (have H2_ := (Option.bind_some _ _).symm.trans H; with_reducible exact H2_) | with_reducible exact H | (rw [hy113]; exact H) | exact H
            have Ny113 := Aside0.mk hy113
            clear hy113
            simp only [Option.some.injEq, Prod.mk.injEq] at H
            obtain ⟨rfl, rfl⟩ := H
            have hcz22_0 : wc.cell? ⟨gb101, 0, none⟩ = some (.slice A0_0 l0_0.length c0_0) := (blk_cell BK101.out 0).trans rfl
            have hfz22_0 := blk_frozen BK101.out 0
            go_wp2_with (first | ((with_reducible refine gate_callee (f := 69) rfl ?_); refine goesL_ (some 22) rfl rfl Try.func69 (by kernel_rfl) rfl #[.agg #[.slice A0_0 l0_0.length c0_0], .slice A1 l1.length c1, .slice A2 l2.length c2] rfl qz4_ ?_; (with_reducible refine (spec_l11Ask.calls kj3 _ _ l0_0 _ _ l1 _ _ l2 t105 _ ?side1 ?side2 ?side3 ?side4 ?side5 ?side6 A10.out).mono ?_); (case side1 => repeat (first | exact (Kd.C_below HR0_0.out HB.out) | (with_reducible refine Kd.C_alloc ?_ _) | (with_reducible refine Kd.C_drewN ?_ _) | (with_reducible refine Kd.C_drew ?_))); (case side2 => exact HC0_0.out); (case side3 => repeat (first | exact (Kd.C_below HR1.out HB.out) | (with_reducible refine Kd.C_alloc ?_ _) | (with_reducible refine Kd.C_drewN ?_ _) | (with_reducible refine Kd.C_drew ?_))); (case side4 => exact HC1.out); (case side5 => repeat (first | exact (Kd.C_below HR2.out HB.out) | (with_reducible refine Kd.C_alloc ?_ _) | (with_reducible refine Kd.C_drewN ?_ _) | (with_reducible refine Kd.C_drew ?_))); (case side6 => exact HC2.out); rintro e w23 ⟨rfl, hb⟩; refine ⟨_, rfl, ?_⟩; have n0_ := Aside0.mk (blk_below (g := gb101) (o := .cells #[.slice A0_0 l0_0.length c0_0] 63 (0, 0)) qz5_ hb); have n1_ := Aside0.mk (below_step qz6_ hb); clear BK101; clear HB; have BK101 := n0_; have HB := n1_; clear n0_ n1_; (try clear hb); (try clear hb2); (try clear hk); (try clear hi); have hcz24_0 : w23.cell? ⟨gb101, 0, none⟩ = some (.slice A0_0 l0_0.length c0_0) := (blk_cell BK101.out 0).trans rfl; have hfz24_0 := blk_frozen BK101.out 0) | ((with_reducible refine gate_callee (f := 70) rfl ?_); refine goesL_ (some 30) rfl rfl Try.func70 (by kernel_rfl) rfl #[.agg #[.slice A0_0 l0_0.length c0_0], .slice A1 l1.length c1, .slice A2 l2.length c2] rfl qz4_ ?_; (with_reducible refine (spec_l11Run.calls kj3 _ _ l0_0 _ _ l1 _ _ l2 t109 _ ?side1 ?side2 ?side3 ?side4 ?side5 ?side6 A12.out).mono ?_); (case side1 => repeat (first | exact (Kd.C_below HR0_0.out HB.out) | (with_reducible refine Kd.C_alloc ?_ _) | (with_reducible refine Kd.C_drewN ?_ _) | (with_reducible refine Kd.C_drew ?_))); (case side2 => exact HC0_0.out); (case side3 => repeat (first | exact (Kd.C_below HR1.out HB.out) | (with_reducible refine Kd.C_alloc ?_ _) | (with_reducible refine Kd.C_drewN ?_ _) | (with_reducible refine Kd.C_drew ?_))); (case side4 => exact HC1.out); (case side5 => repeat (first | exact (Kd.C_below HR2.out HB.out) | (with_reducible refine Kd.C_alloc ?_ _) | (with_reducible refine Kd.C_drewN ?_ _) | (with_reducible refine Kd.C_drew ?_))); (case side6 => exact HC2.out); rintro e w25 ⟨v110, rfl, ho0, hb⟩; refine ⟨_, rfl, ?_⟩; have n0_ := Aside0.mk (Kd.R_lower ho0 (below_size qz6_)); have n1_ := Aside0.mk (blk_below (g := gb101) (o := .cells #[.slice A0_0 l0_0.length c0_0] 63 (0, 0)) qz5_ hb); have n2_ := Aside0.mk (below_step qz6_ hb); clear BK101; clear HB; have HO111 := n0_; have BK101 := n1_; have HB := n2_; clear n0_ n1_ n2_; (try clear hb); (try clear hb2); (try clear hk); (try clear hi); (try clear ho0); have hcz26_0 : w25.cell? ⟨gb101, 0, none⟩ = some (.slice A0_0 l0_0.length c0_0) := (blk_cell BK101.out 0).trans rfl; have hfz26_0 := blk_frozen BK101.out 0; obtain ⟨Ao27, co27, eo27⟩ := Kd.R_slice HO111.out; subst eo27) | ((with_reducible refine gate_callee (f := 71) rfl ?_); refine goesL_ (some 33) rfl rfl Try.func71 (by kernel_rfl) rfl #[.agg #[.slice A0_0 l0_0.length c0_0], .slice Ao27 t109.length co27] rfl qz4_ ?_; (with_reducible refine (spec_l11Fits.calls kj3 _ _ l0_0 _ _ t109 false _ ?side1 ?side2 ?side3 ?side4 A13.out).mono ?_); (case side1 => repeat (first | exact (Kd.C_below HR0_0.out HB.out) | (with_reducible refine Kd.C_alloc ?_ _) | (with_reducible refine Kd.C_drewN ?_ _) | (with_reducible refine Kd.C_drew ?_))); (case side2 => exact HC0_0.out); (case side3 => repeat (first | exact (Kd.R_reads' HO111.out).2.2 | (with_reducible refine Kd.C_alloc ?_ _) | (with_reducible refine Kd.C_drewN ?_ _) | (with_reducible refine Kd.C_drew ?_))); (case side4 => exact (Kd.R_reads' HO111.out).2.1); rintro e w28 ⟨rfl, hb⟩; refine ⟨_, rfl, ?_⟩; have n0_ := Aside0.mk (Kd.R_below qz41_ hb); have n1_ := Aside0.mk (blk_below (g := gb101) (o := .cells #[.slice A0_0 l0_0.length c0_0] 63 (0, 0)) qz5_ hb); have n2_ := Aside0.mk (below_step qz6_ hb); clear HO111; clear BK101; clear HB; have HO111 := n0_; have BK101 := n1_; have HB := n2_; clear n0_ n1_ n2_; (try clear hb); (try clear hb2); (try clear hk); (try clear hi)) | ((with_reducible refine gate_dst (N := 35) rfl ?_); (try (refine gate_guard (by rfl) ?_; dsimp only)); refine Kd.R_lit (Kd.int .i64) _ 3 ?hg (N := 35) ?hd (xs := ([] : List Int)) (inner := []) (ok := fun _ => True) (okp := fun _ => True) ?hr ?hp (fun _ hk => hk) trivial (Below.refl _ _) (Nat.le_refl _) (by simp) ?_; (case hd => rfl); (case hg => rfl); (case hr => first | (go_simp; done) | (go_simp; rfl)); (case hp => exact (Reps.none _ _)); intro v114 w29 ho30 hb hg_ hnew_; clear hg_ hnew_; (first | rw [← Ny113.out] at ho30 | (simp only [Int.reduceToNat] at ho30; rw [← Ny113.out] at ho30)); have n0_ := Aside0.mk (Kd.R_elder' qz41_ (Kd.R_base ho30) hb); have n1_ := Aside0.mk (Kd.R_lower (Kd.R_new' ho30 (Kd.R_lt qz41_)) (below_size qz6_)); have n2_ := Aside0.mk (blk_below (g := gb101) (o := .cells #[.slice A0_0 l0_0.length c0_0] 63 (0, 0)) qz5_ hb); have n3_ := Aside0.mk (below_step qz6_ hb); clear HO111; clear BK101; clear HB; have HO111 := n0_; have HO115 := n1_; have BK101 := n2_; have HB := n3_; clear n0_ n1_ n2_ n3_; clear hb ho30))
            go_ret2
            exact ⟨_, by first | rfl | (simp [errW_none, errW_some] <;> rfl) | (simp [*, errW_none, errW_some] <;> rfl), by (with_reducible repeat (first | apply Kd.R_alloc | apply Kd.R_drewN | apply Kd.R_drew)); exact Kd.R_mono HO115.out (fun _ hk => trivial), by repeat (first | (with_reducible first | exact HB.out | apply below_alloc | apply pw_below_drewN | apply below_drew1 | refine below_set ?_ GE101.out) | exact HB.out)⟩
        · rw [if_neg c11] at H
          have c11b0 : (t105 == 0) = false := beq_eq_false_iff_ne.mpr c11
          have c11b1 : (t105 != 0) = true := bne_iff_ne.mpr c11
          obtain ⟨y106, hy106⟩ : ∃ y_ : List Int, y_ = (([] : List Int)) := ⟨_, rfl⟩
          replace H : (some (y106, t105)) = some (r1, r2) := by first | (rw [hy106]; with_reducible exact H) | (have H2_ := (Option.bind_some _ _).symm.trans H; rw [hy106]; with_reducible exact H2_) | (have H2_ := (Option.bind_some _ _).symm.trans H; with_reducible exact H2_) | with_reducible exact H | (rw [hy106]; exact H) | exact H
          have Ny106 := Aside0.mk hy106
          clear hy106
          simp only [Option.some.injEq, Prod.mk.injEq] at H
          obtain ⟨rfl, rfl⟩ := H
          have hcz31_0 : wc.cell? ⟨gb101, 0, none⟩ = some (.slice A0_0 l0_0.length c0_0) := (blk_cell BK101.out 0).trans rfl
          have hfz31_0 := blk_frozen BK101.out 0
          go_wp2_with (first | ((with_reducible refine gate_callee (f := 69) rfl ?_); refine goesL_ (some 22) rfl rfl Try.func69 (by kernel_rfl) rfl #[.agg #[.slice A0_0 l0_0.length c0_0], .slice A1 l1.length c1, .slice A2 l2.length c2] rfl qz4_ ?_; (with_reducible refine (spec_l11Ask.calls kj3 _ _ l0_0 _ _ l1 _ _ l2 t105 _ ?side1 ?side2 ?side3 ?side4 ?side5 ?side6 A10.out).mono ?_); (case side1 => repeat (first | exact (Kd.C_below HR0_0.out HB.out) | (with_reducible refine Kd.C_alloc ?_ _) | (with_reducible refine Kd.C_drewN ?_ _) | (with_reducible refine Kd.C_drew ?_))); (case side2 => exact HC0_0.out); (case side3 => repeat (first | exact (Kd.C_below HR1.out HB.out) | (with_reducible refine Kd.C_alloc ?_ _) | (with_reducible refine Kd.C_drewN ?_ _) | (with_reducible refine Kd.C_drew ?_))); (case side4 => exact HC1.out); (case side5 => repeat (first | exact (Kd.C_below HR2.out HB.out) | (with_reducible refine Kd.C_alloc ?_ _) | (with_reducible refine Kd.C_drewN ?_ _) | (with_reducible refine Kd.C_drew ?_))); (case side6 => exact HC2.out); rintro e w32 ⟨rfl, hb⟩; refine ⟨_, rfl, ?_⟩; have n0_ := Aside0.mk (blk_below (g := gb101) (o := .cells #[.slice A0_0 l0_0.length c0_0] 63 (0, 0)) qz5_ hb); have n1_ := Aside0.mk (below_step qz6_ hb); clear BK101; clear HB; have BK101 := n0_; have HB := n1_; clear n0_ n1_; (try clear hb); (try clear hb2); (try clear hk); (try clear hi)) | ((with_reducible refine gate_dst (N := 25) rfl ?_); (try (refine gate_guard (by rfl) ?_; dsimp only)); refine Kd.R_lit (Kd.int .i64) _ 3 ?hg (N := 25) ?hd (xs := ([] : List Int)) (inner := []) (ok := fun _ => True) (okp := fun _ => True) ?hr ?hp (fun _ hk => hk) trivial (Below.refl _ _) (Nat.le_refl _) (by simp) ?_; (case hd => rfl); (case hg => rfl); (case hr => first | (go_simp; done) | (go_simp; rfl)); (case hp => exact (Reps.none _ _)); intro v107 w33 ho34 hb hg_ hnew_; clear hg_ hnew_; (first | rw [← Ny106.out] at ho34 | (simp only [Int.reduceToNat] at ho34; rw [← Ny106.out] at ho34)); have n0_ := Aside0.mk (Kd.R_lower ho34 (below_size qz6_)); have n1_ := Aside0.mk (blk_below (g := gb101) (o := .cells #[.slice A0_0 l0_0.length c0_0] 63 (0, 0)) qz5_ hb); have n2_ := Aside0.mk (below_step qz6_ hb); clear BK101; clear HB; have HO108 := n0_; have BK101 := n1_; have HB := n2_; clear n0_ n1_ n2_; clear hb ho34))
          go_ret2
          exact ⟨_, by first | rfl | (simp [errW_none, errW_some] <;> rfl) | (simp [*, errW_none, errW_some] <;> rfl), by (with_reducible repeat (first | apply Kd.R_alloc | apply Kd.R_drewN | apply Kd.R_drew)); exact HO108.out, by repeat (first | (with_reducible first | exact HB.out | apply below_alloc | apply pw_below_drewN | apply below_drew1 | refine below_set ?_ GE101.out) | exact HB.out)⟩

end Go.Proofs.Ytekijbcblajjbaa.PT
end
section
namespace Go.Proofs.Ytekijbcblajjbaa.PT
open Go.RowKit Go.Proofs.YtekijbcblajjbaaW.PrintWords Go.Proofs.YtekijbcblajjbaaW.PrintLast Go.Proofs.YtekijbcblajjbaaW.PrintMore
attribute [local go_sem] max2_int min2_int max_two min_two max_three min_three max_four min_four   -- for this text's walks alone
set_option linter.unusedVariables false
set_option linter.unusedSimpArgs false

/-! ### laws_toGate: function 95 -/
def laws_toGate.f (a0_0 : Int) (a0_1 : Int) (a0_2 : Int) (a0_3 : Int) : Option (Int × Int × Int × Int) := some (a0_0, a0_1, a0_2, a0_3)
set_option maxHeartbeats 8000000 in
set_option maxRecDepth 100000 in
theorem laws_toGate.calls (a0_0 : Int) (a0_1 : Int) (a0_2 : Int) (a0_3 : Int) (r1 : Int) (r2 : Int) (r3 : Int) (r4 : Int) (w : World) (h : laws_toGate.f a0_0 a0_1 a0_2 a0_3 = some (r1, r2, r3, r4)) :
    Calls Try.prog 95 #[.agg #[.int .i64 a0_0, .int .i64 a0_1, .int .i64 a0_2, .int .i64 a0_3]] w fun e w' => e = .returned (.agg #[.int .i64 r1, .int .i64 r2, .int .i64 r3, .int .i64 r4]) ∧ Below w.heap.size w w' := by
  have hu117 := Try.underlying117
  have hu115 := Try.underlying115
  have HB := Aside0.mk (Below.refl w.heap.size w)
  have H : (some (a0_0, a0_1, a0_2, a0_3)) = some (r1, r2, r3, r4) := h
  clear h
  simp only [Option.some.injEq, Prod.mk.injEq] at H
  obtain ⟨rfl, rfl, rfl, rfl⟩ := H
  go_enter Try.func95, Try.ntmps95
  go_wp2_with (first | ((with_reducible refine gate_dst (N := 1) rfl ?_); refine box_event ?hg (N := 1) ?hd (cs := #[.int .i64 a0_0, .int .i64 a0_1, .int .i64 a0_2, .int .i64 a0_3]) (t := 117) ?hr ?_; (case hd => rfl); (case hg => rfl); (case hr => first | (go_simp; done) | (go_simp; rfl)); intro gb101 hg w2 hbox hb; have n0_ := Aside0.mk (below_step qz1_ hb); have n1_ := Aside0.mk (hbox); have n2_ := Aside0.mk ((by rw [hg]; exact (below_size qz1_) : w.heap.size ≤ gb101)); have n3_ := Aside0.mk ((by rw [hg]; exact (below_size qz1_) : w.heap.size ≤ gb101)); clear HB; have HB := n0_; have BK101 := n1_; have GW101 := n2_; have GE101 := n3_; clear n0_ n1_ n2_ n3_; clear hb hbox hg) | ((with_reducible refine gate_dst (N := 2) rfl ?_); refine box_event ?hg (N := 2) ?hd (cs := #[.int .i64 0, .int .i64 0, .int .i64 0, .int .i64 0]) (t := 115) ?hr ?_; (case hd => rfl); (case hg => rfl); (case hr => first | (go_simp; done) | (go_simp; rfl)); intro gb102 hg w3 hbox hb; have n0_ := Aside0.mk (blk_below (g := gb101) (o := .cells #[.int .i64 a0_0, .int .i64 a0_1, .int .i64 a0_2, .int .i64 a0_3] 117 (0, 0)) qz5_ hb); have n1_ := Aside0.mk (below_step qz6_ hb); have n2_ := Aside0.mk (hbox); have n3_ := Aside0.mk ((by rw [hg]; exact (below_size qz6_) : w.heap.size ≤ gb102)); have n4_ := Aside0.mk ((by rw [hg]; exact (below_size qz6_) : w.heap.size ≤ gb102)); have n5_ := Aside0.mk ((by rw [hg]; exact Nat.ne_of_lt (blk_lt (g := gb101) (o := .cells #[.int .i64 a0_0, .int .i64 a0_1, .int .i64 a0_2, .int .i64 a0_3] 117 (0, 0)) qz5_) : gb101 ≠ gb102)); have n6_ := Aside0.mk ((by rw [hg]; exact Nat.ne_of_gt (blk_lt (g := gb101) (o := .cells #[.int .i64 a0_0, .int .i64 a0_1, .int .i64 a0_2, .int .i64 a0_3] 117 (0, 0)) qz5_) : gb102 ≠ gb101)); clear BK101; clear HB; have BK101 := n0_; have HB := n1_; have BK102 := n2_; have GW102 := n3_; have GE102 := n4_; have NB101_102 := n5_; have NB102_101 := n6_; clear n0_ n1_ n2_ n3_ n4_ n5_ n6_; clear hb hbox hg) | ((with_reducible refine gate_dst (N := 3) rfl ?_); refine box_event ?hg (N := 3) ?hd (cs := #[.int .i64 0, .int .i64 0, .int .i64 0, .int .i64 0]) (t := 115) ?hr ?_; (case hd => rfl); (case hg => rfl); (case hr => first | (go_simp; done) | (go_simp; rfl)); intro gb103 hg w4 hbox hb; have n0_ := Aside0.mk (blk_below (g := gb101) (o := .cells #[.int .i64 a0_0, .int .i64 a0_1, .int .i64 a0_2, .int .i64 a0_3] 117 (0, 0)) qz5_ hb); have n1_ := Aside0.mk (blk_below (g := gb102) (o := .cells #[.int .i64 0, .int .i64 0, .int .i64 0, .int .i64 0] 115 (0, 0)) qz42_ hb); have n2_ := Aside0.mk (below_step qz43_ hb); have n3_ := Aside0.mk (hbox); have n4_ := Aside0.mk ((by rw [hg]; exact (below_size qz43_) : w.heap.size ≤ gb103)); have n5_ := Aside0.mk ((by rw [hg]; exact (below_size qz43_) : w.heap.size ≤ gb103)); have n6_ := Aside0.mk ((by rw [hg]; exact Nat.ne_of_lt (blk_lt (g := gb101) (o := .cells #[.int .i64 a0_0, .int .i64 a0_1, .int .i64 a0_2, .int .i64 a0_3] 117 (0, 0)) qz5_) : gb101 ≠ gb103)); have n7_ := Aside0.mk ((by rw [hg]; exact Nat.ne_of_gt (blk_lt (g := gb101) (o := .cells #[.int .i64 a0_0, .int .i64 a0_1, .int .i64 a0_2, .int .i64 a0_3] 117 (0, 0)) qz5_) : gb103 ≠ gb101)); have n8_ := Aside0.mk ((by rw [hg]; exact Nat.ne_of_lt (blk_lt (g := gb102) (o := .cells #[.int .i64 0, .int .i64 0, .int .i64 0, .int .i64 0] 115 (0, 0)) qz42_) : gb102 ≠ gb103)); have n9_ := Aside0.mk ((by rw [hg]; exact Nat.ne_of_gt (blk_lt (g := gb102) (o := .cells #[.int .i64 0, .int .i64 0, .int .i64 0, .int .i64 0] 115 (0, 0)) qz42_) : gb103 ≠ gb102)); clear BK101; clear BK102; clear HB; have BK101 := n0_; have BK102 := n1_; have HB := n2_; have BK103 := n3_; have GW103 := n4_; have GE103 := n5_; have NB101_103 := n6_; have NB103_101 := n7_; have NB102_103 := n8_; have NB103_102 := n9_; clear n0_ n1_ n2_ n3_ n4_ n5_ n6_ n7_ n8_ n9_; clear hb hbox hg; have hnb5 := NB101_102.out; have hnc5 := NB102_101.out; have hnb6 := NB101_103.out; have hnc6 := NB103_101.out; have hcz7_0 : w4.cell? ⟨gb101, 0, none⟩ = some (.int .i64 a0_0) := (blk_cell BK101.out 0).trans rfl; have hcz7_1 : w4.cell? ⟨gb101, 1, none⟩ = some (.int .i64 a0_1) := (blk_cell BK101.out 1).trans rfl; have hcz7_2 : w4.cell? ⟨gb101, 2, none⟩ = some (.int .i64 a0_2) := (blk_cell BK101.out 2).trans rfl; have hcz7_3 : w4.cell? ⟨gb101, 3, none⟩ = some (.int .i64 a0_3) := (blk_cell BK101.out 3).trans rfl; have hfz7_0 := blk_frozen BK101.out 0; have hfz7_1 := blk_frozen BK101.out 1; have hfz7_2 := blk_frozen BK101.out 2; have hfz7_3 := blk_frozen BK101.out 3; have hnb8 := NB103_102.out; have hnc8 := NB102_103.out; have hcz9_0 : w4.cell? ⟨gb103, 0, none⟩ = some (.int .i64 0) := (blk_cell BK103.out 0).trans rfl; have hcz9_1 : w4.cell? ⟨gb103, 1, none⟩ = some (.int .i64 0) := (blk_cell BK103.out 1).trans rfl; have hcz9_2 : w4.cell? ⟨gb103, 2, none⟩ = some (.int .i64 0) := (blk_cell BK103.out 2).trans rfl; have hcz9_3 : w4.cell? ⟨gb103, 3, none⟩ = some (.int .i64 0) := (blk_cell BK103.out 3).trans rfl; have hfz9_0 := blk_frozen BK103.out 0; have hfz9_1 := blk_frozen BK103.out 1; have hfz9_2 := blk_frozen BK103.out 2; have hfz9_3 := blk_frozen BK103.out 3; have hcz10_0 : w4.cell? ⟨gb102, 0, none⟩ = some (.int .i64 0) := (blk_cell BK102.out 0).trans rfl; have hcz10_1 : w4.cell? ⟨gb102, 1, none⟩ = some (.int .i64 0) := (blk_cell BK102.out 1).trans rfl; have hcz10_2 : w4.cell? ⟨gb102, 2, none⟩ = some (.int .i64 0) := (blk_cell BK102.out 2).trans rfl; have hcz10_3 : w4.cell? ⟨gb102, 3, none⟩ = some (.int .i64 0) := (blk_cell BK102.out 3).trans rfl; have hfz10_0 := blk_frozen BK102.out 0; have hfz10_1 := blk_frozen BK102.out 1; have hfz10_2 := blk_frozen BK102.out 2; have hfz10_3 := blk_frozen BK102.out 3))
  refine bodyPost_ret (results_cell_row rfl _ _ gb102 115 #[.int .i64 a0_0, .int .i64 a0_1, .int .i64 a0_2, .int .i64 a0_3] (0, 0) _ rfl (by (with_reducible repeat (first | refine blk_drewN ?_ _ | refine blk_drew ?_ | refine blk_alloc ?_ _)); refine blk_put (cs := #[.int .i64 a0_0, .int .i64 a0_1, .int .i64 a0_2, .int .i64 0]) ?_ 3 _ rfl; (with_reducible repeat (first | refine blk_drewN ?_ _ | refine blk_drew ?_ | refine blk_alloc ?_ _)); refine blk_put (cs := #[.int .i64 a0_0, .int .i64 a0_1, .int .i64 0, .int .i64 0]) ?_ 2 _ rfl; (with_reducible repeat (first | refine blk_drewN ?_ _ | refine blk_drew ?_ | refine blk_alloc ?_ _)); refine blk_put (cs := #[.int .i64 a0_0, .int .i64 0, .int .i64 0, .int .i64 0]) ?_ 1 _ rfl; (with_reducible repeat (first | refine blk_drewN ?_ _ | refine blk_drew ?_ | refine blk_alloc ?_ _)); refine blk_put (cs := #[.int .i64 0, .int .i64 0, .int .i64 0, .int .i64 0]) ?_ 0 _ rfl; (with_reducible repeat (first | refine blk_drewN ?_ _ | refine blk_drew ?_ | refine blk_alloc ?_ _)); refine blk_far ?_ NB102_103.out _; (with_reducible repeat (first | refine blk_drewN ?_ _ | refine blk_drew ?_ | refine blk_alloc ?_ _)); refine blk_far ?_ NB102_103.out _; (with_reducible repeat (first | refine blk_drewN ?_ _ | refine blk_drew ?_ | refine blk_alloc ?_ _)); refine blk_far ?_ NB102_103.out _; (with_reducible repeat (first | refine blk_drewN ?_ _ | refine blk_drew ?_ | refine blk_alloc ?_ _)); refine blk_far ?_ NB102_103.out _; (with_reducible repeat (first | refine blk_drewN ?_ _ | refine blk_drew ?_ | refine blk_alloc ?_ _)); exact BK102.out) Try.underlying115 rfl (by kernel_rfl)) rfl ?_
  exact ⟨by first | rfl | (simp [errW_none, errW_some] <;> rfl) | (simp [*, errW_none, errW_some] <;> rfl), by repeat (first | (with_reducible first | exact HB.out | apply below_alloc | apply pw_below_drewN | apply below_drew1 | refine below_set ?_ GE101.out | refine below_set ?_ GE102.out | refine below_set ?_ GE103.out) | exact HB.out)⟩

end Go.Proofs.Ytekijbcblajjbaa.PT
end
section
namespace Go.Proofs.Ytekijbcblajjbaa.PT
open Go.RowKit Go.Proofs.YtekijbcblajjbaaW.PrintWords Go.Proofs.YtekijbcblajjbaaW.PrintLast Go.Proofs.YtekijbcblajjbaaW.PrintMore
attribute [local go_sem] max2_int min2_int max_two min_two max_three min_three max_four min_four   -- for this text's walks alone
set_option linter.unusedVariables false
set_option linter.unusedSimpArgs false

/-! ### laws_toGateS: function 72 -/
def laws_toGateS.l0 : Nat → List (S117) → List (S115) → Int → Option ((List (S115)))
  | 0, _, _, _ => none
  | k + 1, x0, x3, x4 => if x4 < (x0.length : Int) then (if 0 ≤ x4 then ((laws_toGate.f ((rd_T117 x0 x4).f0) ((rd_T117 x0 x4).f1) ((rd_T117 x0 x4).f2) ((rd_T117 x0 x4).f3)).bind fun bt105 => (if x4 < (x3.length : Int) then (laws_toGateS.l0 k x0 (x3.set (x4 : Int).toNat (⟨bt105.1, bt105.2.1, bt105.2.2.1, bt105.2.2.2⟩ : S115)) (wrap64 (x4 + 1))) else (none))) else (none)) else (some x3)
def laws_toGateS.f (k : Nat) (l0 : List (S117)) : Option ((List (S115))) := if 0 ≤ (l0.length : Int) then (if ((l0.length : Int) : Int).toNat ≤ 8796093022208 then (laws_toGateS.l0 k l0 (List.replicate ((l0.length : Int) : Int).toNat z115) 0) else (none)) else (none)
theorem laws_toGateS.mono_l : ∀ k, (∀ y0 y1 y2, LeO (laws_toGateS.l0 k y0 y1 y2) (laws_toGateS.l0 (k + 1) y0 y1 y2))
  | 0 => fun _ _ _ r h => by simp [laws_toGateS.l0] at h
  | k + 1 => by
    have ih0 := laws_toGateS.mono_l k
    · intro y0 y1 y2
      unfold laws_toGateS.l0
      repeat' first
      | (with_reducible exact ih0 _ _ _)
      | (with_reducible exact LeO.refl _)
      | (with_reducible exact LeO.none _)
      | (with_reducible refine LeO.ite ?_ ?_)
      | (with_reducible refine LeO.bind ?_ (fun _ => ?_))
      | exact ih0 _ _ _
      | exact LeO.none _
      | refine LeO.ite ?_ ?_
      | refine LeO.bind ?_ (fun _ => ?_)
theorem laws_toGateS.mono : ∀ a0 k, LeO (laws_toGateS.f k a0) (laws_toGateS.f (k + 1) a0) := by
  intro a0 k
  have ih0 := laws_toGateS.mono_l k
  unfold laws_toGateS.f
  repeat' first
      | (with_reducible exact ih0 _ _ _)
      | (with_reducible exact LeO.refl _)
      | (with_reducible exact LeO.none _)
      | (with_reducible refine LeO.ite ?_ ?_)
      | (with_reducible refine LeO.bind ?_ (fun _ => ?_))
      | exact ih0 _ _ _
      | exact LeO.none _
      | refine LeO.ite ?_ ?_
      | refine LeO.bind ?_ (fun _ => ?_)
set_option maxHeartbeats 8000000 in
set_option maxRecDepth 100000 in
theorem laws_toGateS.calls (k : Nat) (A0 : Option Addr) (c0 : Nat) (l0 : List (S117)) (r : List (S115)) (w : World) (hr0 : Kd.C k117 w A0 l0.length l0) (hc0 : l0.length ≤ c0) (h : laws_toGateS.f k l0 = some r) :
    Calls Try.prog 72 #[.slice A0 l0.length c0] w fun e w' => ∃ v0_ : Value, e = .returned (v0_) ∧ Kd.R k115 115 w' w.heap.size (fun _ => True) v0_ r ∧ Below w.heap.size w w' := by
  have hu117 := Try.underlying117
  have hu115 := Try.underlying115
  have HR0 := Aside0.mk hr0
  have HC0 := Aside0.mk hc0
  clear hr0 hc0
  have HB := Aside0.mk (Below.refl w.heap.size w)
  have H : (if 0 ≤ (l0.length : Int) then (if ((l0.length : Int) : Int).toNat ≤ 8796093022208 then (laws_toGateS.l0 k l0 (List.replicate ((l0.length : Int) : Int).toNat z115) 0) else (none)) else (none)) = some r := h
  clear h
  by_cases c2 : 0 ≤ (l0.length : Int)
  · rw [if_pos c2] at H
    have c2b0 := eq_true c2
    have c2b1 : decide (0 ≤ (l0.length : Int)) = true := decide_eq_true c2
    clear c2
    by_cases c3 : ((l0.length : Int) : Int).toNat ≤ 8796093022208
    · rw [if_pos c3] at H
      have c3b0 := eq_true c3
      have c3b1 : decide (((l0.length : Int) : Int).toNat ≤ 8796093022208) = true := decide_eq_true c3
      clear c3
      obtain ⟨y101, hy101⟩ : ∃ y_ : List (S115), y_ = (List.replicate ((l0.length : Int) : Int).toNat z115) := ⟨_, rfl⟩
      replace H : (laws_toGateS.l0 k l0 y101 0) = some r := by first | (rw [hy101]; with_reducible exact H) | (have H2_ := (Option.bind_some _ _).symm.trans H; rw [hy101]; with_reducible exact H2_) | (have H2_ := (Option.bind_some _ _).symm.trans H; with_reducible exact H2_) | with_reducible exact H | (rw [hy101]; exact H) | exact H
      have Ny101 := Aside0.mk hy101
      clear hy101
      have H' := Aside0.mk H
      clear H
      go_enter Try.func72, Try.ntmps72
      go_wp2_with (first | ((with_reducible refine gate_dst (N := 7) rfl ?_); refine Kd.R_make k115 _ 115 rfl (N := 7) rfl 61 _ _ rfl (l0.length : Int) rfl rfl Try.underlying61 (.agg #[(.int .i64 0), (.int .i64 0), (.int .i64 0), (.int .i64 0)]) 32 info115 rfl (by decide) (by omega) z115 (ok := fun _ => True) (okp := fun _ => True) (k115_mkM _ _ _ z115 ) (fun _ hk => hk) trivial (of_decide_eq_true qz0_) (Nat.le_trans (Nat.mul_le_mul_right _ (of_decide_eq_true qz0_ : (l0.length : Int).toNat ≤ 8796093022208)) (by omega)) (Below.refl _ _) (Nat.le_refl _) ?_; intro v102 w4 ho5 hb hg_ hnew_; clear hg_ hnew_; (first | rw [← Ny101.out] at ho5 | (simp only [Int.reduceToNat] at ho5; rw [← Ny101.out] at ho5)); have n0_ := Aside0.mk (Kd.R_lower ho5 (below_size qz1_)); have n1_ := Aside0.mk (below_step qz1_ hb); clear HB; have HO103 := n0_; have HB := n1_; clear n0_ n1_; clear hb ho5))
      go_loopg [4] k (fun kq v4 w' => ∃ (x3_1 : List (S115)) (x4_1 : Int), v4 = .int .i64 x4_1 ∧ Aside0 (laws_toGateS.l0 kq l0 x3_1 x4_1 = some r) ∧ Aside0 (kq ≤ k) ∧ Aside0 (Kd.R k115 115 w' w.heap.size (fun _ => True) v102 x3_1) ∧ Aside0 (Below w.heap.size w w'))
      case atStart => exact ⟨(y101), (0), qz2_, H', ⟨Nat.le_refl _⟩, ⟨by (with_reducible repeat (first | apply Kd.R_alloc | apply Kd.R_drewN | apply Kd.R_drew)); exact HO103.out⟩, ⟨by repeat (first | (with_reducible first | exact HB.out | apply below_alloc | apply pw_below_drewN | apply below_drew1) | exact HB.out)⟩⟩
      case round =>
        clear H'
        try clear c2
        try clear c2b0
        try clear c2b1
        try clear p2
        try clear c3
        try clear c3b0
        try clear c3b1
        obtain ⟨x3_1, x4_1, rfl, HA, HK1, HO_3, HB⟩ := hrel
        cases gk with
        | zero => exact absurd HA.out (by simp [laws_toGateS.l0])
        | succ k1 =>
          have H := HA.out
          clear HA
          simp only [laws_toGateS.l0] at H
          by_cases c6 : x4_1 < (l0.length : Int)
          · rw [if_pos c6] at H
            have c6b0 : decide (x4_1 < (l0.length : Int)) = true := decide_eq_true c6
            clear c6
            by_cases c7 : 0 ≤ x4_1
            · rw [if_pos c7] at H
              have c7b0 : decide (0 ≤ x4_1) = true := decide_eq_true c7
              clear c7
              replace H := Option.bind_eq_some_iff.mp H
              obtain ⟨⟨t105, t106, t107, t108⟩, A80, H⟩ := H
              replace H : (if x4_1 < (x3_1.length : Int) then (laws_toGateS.l0 k1 l0 (x3_1.set (x4_1 : Int).toNat (⟨t105, t106, t107, t108⟩ : S115)) (wrap64 (x4_1 + 1))) else (none)) = some r := H
              have A8 := Aside0.mk A80
              clear A80
              by_cases c9 : x4_1 < (x3_1.length : Int)
              · rw [if_pos c9] at H
                have c9b0 : decide (x4_1 < (x3_1.length : Int)) = true := decide_eq_true c9
                clear c9
                obtain ⟨y109, hy109⟩ : ∃ y_ : List (S115), y_ = (x3_1.set (x4_1 : Int).toNat (⟨t105, t106, t107, t108⟩ : S115)) := ⟨_, rfl⟩
                replace H : (laws_toGateS.l0 k1 l0 y109 (wrap64 (x4_1 + 1))) = some r := by first | (rw [hy109]; with_reducible exact H) | (have H2_ := (Option.bind_some _ _).symm.trans H; rw [hy109]; with_reducible exact H2_) | (have H2_ := (Option.bind_some _ _).symm.trans H; with_reducible exact H2_) | with_reducible exact H | (rw [hy109]; exact H) | exact H
                have Ny109 := Aside0.mk hy109
                clear hy109
                have H' := Aside0.mk H
                clear H
                have p104 : 0 ≤ (x4_1 : Int) := of_decide_eq_true qz0_
                have q104 : x4_1 < (l0.length : Int) := of_decide_eq_true qz0_
                obtain ⟨ad104, e104, hx104_0, hx104_1, hx104_2, hx104_3⟩ := at_T117 HR0.out x4_1 p104 q104
                cases e104
                replace hx104_0 := (HB.out.cell (World.block_lt_of_cell? w _ hx104_0)).trans hx104_0
                replace hx104_1 := (HB.out.cell (World.block_lt_of_cell? w _ hx104_1)).trans hx104_1
                replace hx104_2 := (HB.out.cell (World.block_lt_of_cell? w _ hx104_2)).trans hx104_2
                replace hx104_3 := (HB.out.cell (World.block_lt_of_cell? w _ hx104_3)).trans hx104_3
                replace p104 := eq_true p104
                replace q104 := eq_true q104
                go_wp2_with (first | ((with_reducible refine gate_callee (f := 95) rfl ?_); refine goesL_ (some 20) rfl rfl Try.func95 (by kernel_rfl) rfl #[.agg #[.int .i64 ((rd_T117 l0 x4_1).f0), .int .i64 ((rd_T117 l0 x4_1).f1), .int .i64 ((rd_T117 l0 x4_1).f2), .int .i64 ((rd_T117 l0 x4_1).f3)]] rfl qz4_ ?_; (with_reducible refine (laws_toGate.calls ((rd_T117 l0 x4_1).f0) ((rd_T117 l0 x4_1).f1) ((rd_T117 l0 x4_1).f2) ((rd_T117 l0 x4_1).f3) t105 t106 t107 t108 _ A8.out).mono ?_); rintro e w11 ⟨rfl, hb⟩; refine ⟨_, rfl, ?_⟩; have n0_ := Aside0.mk (Kd.R_below (by (with_reducible repeat (first | apply Kd.R_alloc | apply Kd.R_drewN | apply Kd.R_drew)); exact HO_3.out) hb); have n1_ := Aside0.mk (below_step qz1_ hb); clear HO_3; clear HB; have HO_3 := n0_; have HB := n1_; clear n0_ n1_; (try clear hb); (try clear hb2); (try clear hk); (try clear hi); have p10 : 0 ≤ (x4_1 : Int) := of_decide_eq_true qz0_; have q10 : (x4_1 : Int) < ((x3_1.length : Int) : Int) := of_decide_eq_true qz0_; obtain ⟨go10, co10, eo10, gb10, gl10, cl10, HG10⟩ := Kd.R_form HO_3.out (by omega); (first | cases eo10 | (injection eo10 with ea_ en_ ec_; (first | subst ea_ | (injection ea_ with ea_; subst ea_)); subst ec_; clear en_)); have GB10 := Aside0.mk gb10; have GG10 := Aside0.mk HG10; clear gb10 gl10 HG10; obtain ⟨ce10, hcl10, hM10, hcc10, hfr10⟩ := Kd.R_elem HO_3.out z115 (x4_1 : Int) p10 q10; obtain rfl := k115_openM hM10; have hx10_0 : w11.cell? ⟨go10, (x4_1 : Int).toNat * 4, none⟩ = some (.int .i64 ((rd_T115 x3_1 x4_1).f0)) := hcc10 0 _ rfl; have hx10_1 : w11.cell? ⟨go10, (x4_1 : Int).toNat * 4 + 1, none⟩ = some (.int .i64 ((rd_T115 x3_1 x4_1).f1)) := hcc10 1 _ rfl; have hx10_2 : w11.cell? ⟨go10, (x4_1 : Int).toNat * 4 + 2, none⟩ = some (.int .i64 ((rd_T115 x3_1 x4_1).f2)) := hcc10 2 _ rfl; have hx10_3 : w11.cell? ⟨go10, (x4_1 : Int).toNat * 4 + 3, none⟩ = some (.int .i64 ((rd_T115 x3_1 x4_1).f3)) := hcc10 3 _ rfl; have hf10_0 : w11.frozen? ⟨go10, (x4_1 : Int).toNat * 4, none⟩ = false := hfr10 0; have hf10_1 : w11.frozen? ⟨go10, (x4_1 : Int).toNat * 4 + 1, none⟩ = false := hfr10 1; have hf10_2 : w11.frozen? ⟨go10, (x4_1 : Int).toNat * 4 + 2, none⟩ = false := hfr10 2; have hf10_3 : w11.frozen? ⟨go10, (x4_1 : Int).toNat * 4 + 3, none⟩ = false := hfr10 3; (try clear hcl10); (try clear hcc10); (try clear hfr10); (try clear hM10); replace p10 := eq_true p10; replace q10 := eq_true q10; have HX12 := Aside0.mk (show Kd.R k115 115 w11 w.heap.size (fun _ => True) (.slice (some ⟨go10, 0, none⟩) x3_1.length co10) x3_1 from (by (with_reducible repeat (first | apply Kd.R_alloc | apply Kd.R_drewN | apply Kd.R_drew)); exact HO_3.out)); obtain ⟨ce12, hcl12, hM12, hcc12, hfr12⟩ := Kd.R_elem HX12.out z115 (x4_1 : Int) (of_decide_eq_true qz0_) (by have h_ : (x4_1 : Int) < ((x3_1.length : Int) : Int) := of_decide_eq_true qz0_; first | exact h_ | (have e_ := (Kd.R_reads' HO_3.out).1; omega) | simpa using h_); obtain rfl := k115_openM hM12; have HP12 := Kd.R_seg HX12.out (x4_1 : Int) (of_decide_eq_true qz0_) (by have h_ : (x4_1 : Int) < ((x3_1.length : Int) : Int) := of_decide_eq_true qz0_; first | exact h_ | (have e_ := (Kd.R_reads' HO_3.out).1; omega) | simpa using h_) (seg := [.int .i64 t105, .int .i64 t106, .int .i64 t107, .int .i64 t108]) (j := 0) hcl12 hcc12 (show 4 ≤ 4 from by decide) (x' := (⟨t105, t106, t107, t108⟩ : S115)) (k115_mkM _ _ _ (⟨t105, t106, t107, t108⟩ : S115) ) (fun _ hk => hk); have hx12_0 := hcc12 0 _ rfl; (try simp only [show (k115).sz = 4 from rfl, Nat.mul_one, Nat.add_zero] at hx12_0); have hf12_0 := hfr12 0; (try simp only [show (k115).sz = 4 from rfl, Nat.mul_one, Nat.add_zero] at hf12_0); have hx12_1 := hcc12 1 _ rfl; (try simp only [show (k115).sz = 4 from rfl, Nat.mul_one, Nat.add_zero] at hx12_1); have hf12_1 := hfr12 1; (try simp only [show (k115).sz = 4 from rfl, Nat.mul_one, Nat.add_zero] at hf12_1); have hx12_2 := hcc12 2 _ rfl; (try simp only [show (k115).sz = 4 from rfl, Nat.mul_one, Nat.add_zero] at hx12_2); have hf12_2 := hfr12 2; (try simp only [show (k115).sz = 4 from rfl, Nat.mul_one, Nat.add_zero] at hf12_2); have hx12_3 := hcc12 3 _ rfl; (try simp only [show (k115).sz = 4 from rfl, Nat.mul_one, Nat.add_zero] at hx12_3); have hf12_3 := hfr12 3; (try simp only [show (k115).sz = 4 from rfl, Nat.mul_one, Nat.add_zero] at hf12_3); (try clear hcl12); (try clear hcc12); (try clear hfr12); (try clear hM12)) | ((with_reducible refine gate_store (t := 115) (p := 21) rfl ?_); refine store_event (t := 115) (p := 21) (v := ?vo_w13) (w1 := ((((w11.setCell ⟨go10, (x4_1 : Int).toNat * 4, none⟩ (.int .i64 t105)).setCell ⟨go10, (x4_1 : Int).toNat * 4 + 1, none⟩ (.int .i64 t106)).setCell ⟨go10, (x4_1 : Int).toNat * 4 + 2, none⟩ (.int .i64 t107)).setCell ⟨go10, (x4_1 : Int).toNat * 4 + 3, none⟩ (.int .i64 t108))) ?hg ?ho ?hn ?hr ?_; (case ho => rfl); (case hg => rfl); (case hn => rfl); (case hr => first | (go_simp; done) | (go_simp; rfl)); intro w13 hw; have hg : w11.grownBy w13 (some go10) := (by rw [hw]; exact HP12.2); have hp_ : Kd.R k115 115 w13 w.heap.size (fun _ => True) (.slice (some ⟨go10, 0, none⟩) x3_1.length co10) y109 := (by rw [hw, Ny109.out]; exact HP12.1); clear HP12; have n0_ := Aside0.mk (hp_); have n1_ := Aside0.mk ((by rw [hw]; exact below_set (below_set (below_set (below_set (HB.out) GB10.out) GB10.out) GB10.out) GB10.out : Below w.heap.size w w13)); clear HO_3; clear HB; have HO_3 := n0_; have HB := n1_; clear n0_ n1_; clear hg hw hp_))
                go_roundg k1
                case measure => have := HK1.out; omega
                case rel => exact ⟨(y109), (wrap64 (x4_1 + 1)), qz2_, H', ⟨by have := HK1.out; omega⟩, ⟨by (with_reducible repeat (first | apply Kd.R_alloc | apply Kd.R_drewN | apply Kd.R_drew)); exact HO_3.out⟩, ⟨by repeat (first | (with_reducible first | exact HB.out | apply below_alloc | apply pw_below_drewN | apply below_drew1) | exact HB.out)⟩⟩
              · rw [if_neg c9] at H
                exact absurd H (by simp)
            · rw [if_neg c7] at H
              exact absurd H (by simp)
          · rw [if_neg c6] at H
            have c6b0 : decide (x4_1 < (l0.length : Int)) = false := decide_eq_false c6
            clear c6
            obtain rfl := Option.some.inj H
            go_wp2
            go_ret
            exact ⟨_, by first | rfl | (simp [errW_none, errW_some] <;> rfl) | (simp [*, errW_none, errW_some] <;> rfl), by (with_reducible repeat (first | apply Kd.R_alloc | apply Kd.R_drewN | apply Kd.R_drew)); exact HO_3.out, by repeat (first | (with_reducible first | exact HB.out | apply below_alloc | apply pw_below_drewN | apply below_drew1) | exact HB.out)⟩
    · rw [if_neg c3] at H
      exact absurd H (by simp)
  · rw [if_neg c2] at H
    exact absurd H (by simp)

end Go.Proofs.Ytekijbcblajjbaa.PT
end
section
namespace Go.Proofs.Ytekijbcblajjbaa.PT
open Go.RowKit Go.Proofs.YtekijbcblajjbaaW.PrintWords Go.Proofs.YtekijbcblajjbaaW.PrintLast Go.Proofs.YtekijbcblajjbaaW.PrintMore
attribute [local go_sem] max2_int min2_int max_two min_two max_three min_three max_four min_four   -- for this text's walks alone
set_option linter.unusedVariables false
set_option linter.unusedSimpArgs false

/-! ### laws_toCircuit: function 35 -/
def laws_toCircuit.f (k : Nat) (l0_0 : List (S117)) : Option ((List (S115))) := (laws_toGateS.f k l0_0).bind fun t104 => (some t104)
theorem laws_toCircuit.mono : ∀ a0 k, LeO (laws_toCircuit.f k a0) (laws_toCircuit.f (k + 1) a0) := by
  intro a0 k
  unfold laws_toCircuit.f
  repeat' first
      | (with_reducible exact laws_toGateS.mono _ _)
      | (with_reducible exact LeO.refl _)
      | (with_reducible exact LeO.none _)
      | (with_reducible refine LeO.ite ?_ ?_)
      | (with_reducible refine LeO.bind ?_ (fun _ => ?_))
      | exact laws_toGateS.mono _ _
      | exact LeO.none _
      | refine LeO.ite ?_ ?_
      | refine LeO.bind ?_ (fun _ => ?_)
set_option maxHeartbeats 8000000 in
set_option maxRecDepth 100000 in
theorem laws_toCircuit.calls (k : Nat) (A0_0 : Option Addr) (c0_0 : Nat) (l0_0 : List (S117)) (r : List (S115)) (w : World) (hr0_0 : Kd.C k117 w A0_0 l0_0.length l0_0) (hc0_0 : l0_0.length ≤ c0_0) (h : laws_toCircuit.f k l0_0 = some r) :
    Calls Try.prog 35 #[.agg #[.slice A0_0 l0_0.length c0_0]] w fun e w' => ∃ v0_ : Value, e = .returned (.agg #[v0_]) ∧ Kd.R k115 115 w' w.heap.size (fun _ => True) v0_ r ∧ Below w.heap.size w w' := by
  have hu58 := Try.underlying58
  have hu63 := Try.underlying63
  have HR0_0 := Aside0.mk hr0_0
  have HC0_0 := Aside0.mk hc0_0
  clear hr0_0 hc0_0
  have HB := Aside0.mk (Below.refl w.heap.size w)
  have H : ((laws_toGateS.f k l0_0).bind fun t104 => (some t104)) = some r := h
  clear h
  replace H := Option.bind_eq_some_iff.mp H
  obtain ⟨t104, A20, H⟩ := H
  replace H : (some t104) = some r := H
  have A2 := Aside0.mk A20
  clear A20
  obtain rfl := Option.some.inj H
  go_enter Try.func35, Try.ntmps35
  go_wp2_with (first | ((with_reducible refine gate_dst (N := 1) rfl ?_); refine box_event ?hg (N := 1) ?hd (cs := #[.slice A0_0 l0_0.length c0_0]) (t := 58) ?hr ?_; (case hd => rfl); (case hg => rfl); (case hr => first | (go_simp; done) | (go_simp; rfl)); intro gb101 hg w3 hbox hb; have n0_ := Aside0.mk (below_step qz1_ hb); have n1_ := Aside0.mk (hbox); have n2_ := Aside0.mk ((by rw [hg]; exact (below_size qz1_) : w.heap.size ≤ gb101)); have n3_ := Aside0.mk ((by rw [hg]; exact (below_size qz1_) : w.heap.size ≤ gb101)); clear HB; have HB := n0_; have BK101 := n1_; have GW101 := n2_; have GE101 := n3_; clear n0_ n1_ n2_ n3_; clear hb hbox hg) | ((with_reducible refine gate_dst (N := 2) rfl ?_); refine box_event ?hg (N := 2) ?hd (cs := #[.slice none 0 0]) (t := 63) ?hr ?_; (case hd => rfl); (case hg => rfl); (case hr => first | (go_simp; done) | (go_simp; rfl)); intro gb102 hg w4 hbox hb; have n0_ := Aside0.mk (blk_below (g := gb101) (o := .cells #[.slice A0_0 l0_0.length c0_0] 58 (0, 0)) qz5_ hb); have n1_ := Aside0.mk (below_step qz6_ hb); have n2_ := Aside0.mk (hbox); have n3_ := Aside0.mk ((by rw [hg]; exact (below_size qz6_) : w.heap.size ≤ gb102)); have n4_ := Aside0.mk ((by rw [hg]; exact (below_size qz6_) : w.heap.size ≤ gb102)); have n5_ := Aside0.mk ((by rw [hg]; exact Nat.ne_of_lt (blk_lt (g := gb101) (o := .cells #[.slice A0_0 l0_0.length c0_0] 58 (0, 0)) qz5_) : gb101 ≠ gb102)); have n6_ := Aside0.mk ((by rw [hg]; exact Nat.ne_of_gt (blk_lt (g := gb101) (o := .cells #[.slice A0_0 l0_0.length c0_0] 58 (0, 0)) qz5_) : gb102 ≠ gb101)); clear BK101; clear HB; have BK101 := n0_; have HB := n1_; have BK102 := n2_; have GW102 := n3_; have GE102 := n4_; have NB101_102 := n5_; have NB102_101 := n6_; clear n0_ n1_ n2_ n3_ n4_ n5_ n6_; clear hb hbox hg) | ((with_reducible refine gate_dst (N := 3) rfl ?_); refine box_event ?hg (N := 3) ?hd (cs := #[.slice none 0 0]) (t := 63) ?hr ?_; (case hd => rfl); (case hg => rfl); (case hr => first | (go_simp; done) | (go_simp; rfl)); intro gb103 hg w5 hbox hb; have n0_ := Aside0.mk (blk_below (g := gb101) (o := .cells #[.slice A0_0 l0_0.length c0_0] 58 (0, 0)) qz5_ hb); have n1_ := Aside0.mk (blk_below (g := gb102) (o := .cells #[.slice none 0 0] 63 (0, 0)) qz42_ hb); have n2_ := Aside0.mk (below_step qz43_ hb); have n3_ := Aside0.mk (hbox); have n4_ := Aside0.mk ((by rw [hg]; exact (below_size qz43_) : w.heap.size ≤ gb103)); have n5_ := Aside0.mk ((by rw [hg]; exact (below_size qz43_) : w.heap.size ≤ gb103)); have n6_ := Aside0.mk ((by rw [hg]; exact Nat.ne_of_lt (blk_lt (g := gb101) (o := .cells #[.slice A0_0 l0_0.length c0_0] 58 (0, 0)) qz5_) : gb101 ≠ gb103)); have n7_ := Aside0.mk ((by rw [hg]; exact Nat.ne_of_gt (blk_lt (g := gb101) (o := .cells #[.slice A0_0 l0_0.length c0_0] 58 (0, 0)) qz5_) : gb103 ≠ gb101)); have n8_ := Aside0.mk ((by rw [hg]; exact Nat.ne_of_lt (blk_lt (g := gb102) (o := .cells #[.slice none 0 0] 63 (0, 0)) qz42_) : gb102 ≠ gb103)); have n9_ := Aside0.mk ((by rw [hg]; exact Nat.ne_of_gt (blk_lt (g := gb102) (o := .cells #[.slice none 0 0] 63 (0, 0)) qz42_) : gb103 ≠ gb102)); clear BK101; clear BK102; clear HB; have BK101 := n0_; have BK102 := n1_; have HB := n2_; have BK103 := n3_; have GW103 := n4_; have GE103 := n5_; have NB101_103 := n6_; have NB103_101 := n7_; have NB102_103 := n8_; have NB103_102 := n9_; clear n0_ n1_ n2_ n3_ n4_ n5_ n6_ n7_ n8_ n9_; clear hb hbox hg; have hnb6 := NB101_102.out; have hnc6 := NB102_101.out; have hnb7 := NB101_103.out; have hnc7 := NB103_101.out; have hcz8_0 : w5.cell? ⟨gb101, 0, none⟩ = some (.slice A0_0 l0_0.length c0_0) := (blk_cell BK101.out 0).trans rfl; have hfz8_0 := blk_frozen BK101.out 0) | ((with_reducible refine gate_callee (f := 72) rfl ?_); refine goesL_ (some 6) rfl rfl Try.func72 (by kernel_rfl) rfl #[.slice A0_0 l0_0.length c0_0] rfl qz4_ ?_; (with_reducible refine (laws_toGateS.calls k _ _ l0_0 t104 _ ?side1 ?side2 A2.out).mono ?_); (case side1 => repeat (first | exact (Kd.C_below HR0_0.out HB.out) | (with_reducible refine Kd.C_alloc ?_ _) | (with_reducible refine Kd.C_drewN ?_ _) | (with_reducible refine Kd.C_drew ?_))); (case side2 => exact HC0_0.out); rintro e w9 ⟨v105, rfl, ho0, hb⟩; refine ⟨_, rfl, ?_⟩; have n0_ := Aside0.mk (Kd.R_lower ho0 (below_size (by repeat (first | (with_reducible first | exact HB.out | apply below_alloc | apply pw_below_drewN | apply below_drew1 | refine below_set ?_ GE101.out | refine below_set ?_ GE102.out | refine below_set ?_ GE103.out) | exact HB.out)))); have n1_ := Aside0.mk (blk_below (g := gb101) (o := .cells #[.slice A0_0 l0_0.length c0_0] 58 (0, 0)) qz5_ hb); have n2_ := Aside0.mk (blk_below (g := gb102) (o := .cells #[.slice none 0 0] 63 (0, 0)) qz42_ hb); have n3_ := Aside0.mk (blk_below (g := gb103) (o := .cells #[.slice none 0 0] 63 (0, 0)) (by (with_reducible repeat (first | refine blk_drewN ?_ _ | refine blk_drew ?_ | refine blk_alloc ?_ _)); exact BK103.out) hb); have n4_ := Aside0.mk (below_step (by repeat (first | (with_reducible first | exact HB.out | apply below_alloc | apply pw_below_drewN | apply below_drew1 | refine below_set ?_ GE101.out | refine below_set ?_ GE102.out | refine below_set ?_ GE103.out) | exact HB.out)) hb); clear BK101; clear BK102; clear BK103; clear HB; have HO106 := n0_; have BK101 := n1_; have BK102 := n2_; have BK103 := n3_; have HB := n4_; clear n0_ n1_ n2_ n3_ n4_; (try clear hb); (try clear hb2); (try clear hk); (try clear hi); (try clear ho0); obtain ⟨Ao10, co10, eo10⟩ := Kd.R_slice HO106.out; subst eo10; have hnb11 := NB103_102.out; have hnc11 := NB102_103.out; have hcz12_0 : w9.cell? ⟨gb103, 0, none⟩ = some (.slice none 0 0) := (blk_cell BK103.out 0).trans rfl; have hfz12_0 := blk_frozen BK103.out 0; have hcz13_0 : w9.cell? ⟨gb102, 0, none⟩ = some (.slice none 0 0) := (blk_cell BK102.out 0).trans rfl; have hfz13_0 := blk_frozen BK102.out 0))
  refine bodyPost_ret (results_cell_row rfl _ _ gb102 63 #[.slice Ao10 t104.length co10] (0, 0) _ rfl (by (with_reducible repeat (first | refine blk_drewN ?_ _ | refine blk_drew ?_ | refine blk_alloc ?_ _)); refine blk_put (cs := #[.slice none 0 0]) ?_ 0 _ rfl; (with_reducible repeat (first | refine blk_drewN ?_ _ | refine blk_drew ?_ | refine blk_alloc ?_ _)); refine blk_far ?_ NB102_103.out _; (with_reducible repeat (first | refine blk_drewN ?_ _ | refine blk_drew ?_ | refine blk_alloc ?_ _)); exact BK102.out) Try.underlying63 rfl (by kernel_rfl)) rfl ?_
  exact ⟨_, by first | rfl | (simp [errW_none, errW_some] <;> rfl) | (simp [*, errW_none, errW_some] <;> rfl), by (with_reducible repeat (first | apply Kd.R_alloc | apply Kd.R_drewN | apply Kd.R_drew)); exact Kd.R_mono (Kd.R_far (p := ⟨gb102, 0, none⟩) (Kd.R_far (p := ⟨gb103, 0, none⟩) (Kd.R_types (Kd.R_types HO106.out BK103.out (by decide)) BK102.out (by decide)) (fun _ hk => hk.1.2) (.slice Ao10 t104.length co10)) (fun _ hk => hk.2) (.slice Ao10 t104.length co10)) (fun _ hk => trivial), by repeat (first | (with_reducible first | exact HB.out | apply below_alloc | apply pw_below_drewN | apply below_drew1 | refine below_set ?_ GE101.out | refine below_set ?_ GE102.out | refine below_set ?_ GE103.out) | exact HB.out)⟩

end Go.Proofs.Ytekijbcblajjbaa.PT
end
section
namespace Go.Proofs.Ytekijbcblajjbaa.PT
open Go.RowKit Go.Proofs.YtekijbcblajjbaaW.PrintWords Go.Proofs.YtekijbcblajjbaaW.PrintLast Go.Proofs.YtekijbcblajjbaaW.PrintMore
attribute [local go_sem] max2_int min2_int max_two min_two max_three min_three max_four min_four   -- for this text's walks alone
set_option linter.unusedVariables false
set_option linter.unusedSimpArgs false

/-! ### impl_in: function 45 -/
def impl_in.f (a0 : Int) (a1 : Int) (a2 : Int) : Option (Bool) := if a1 ≤ a0 then (some (decide (a0 ≤ a2))) else (some false)
set_option maxHeartbeats 8000000 in
set_option maxRecDepth 100000 in
theorem impl_in.calls (a0 : Int) (a1 : Int) (a2 : Int) (r : Bool) (w : World) (h : impl_in.f a0 a1 a2 = some r) :
    Calls Try.prog 45 #[.int .i64 a0, .int .i64 a1, .int .i64 a2] w fun e w' => e = .returned (.bool r) ∧ Drawn0 w w' := by
  have H : (if a1 ≤ a0 then (some (decide (a0 ≤ a2))) else (some false)) = some r := h
  clear h
  by_cases c4 : a1 ≤ a0
  · rw [if_pos c4] at H
    have c4b0 : decide (a1 ≤ a0) = true := decide_eq_true c4
    clear c4
    obtain rfl := Option.some.inj H
    go_enter Try.func45, Try.ntmps45
    go_wp2
    go_ret
    exact ⟨by first | rfl | (simp; done) | (simp [*]; done), by repeat (first | exact Drawn0.refl _ | apply Drawn0.step)⟩
  · rw [if_neg c4] at H
    have c4b0 : decide (a1 ≤ a0) = false := decide_eq_false c4
    clear c4
    obtain rfl := Option.some.inj H
    go_enter Try.func45, Try.ntmps45
    go_wp2
    go_ret
    exact ⟨by first | rfl | (simp; done) | (simp [*]; done), by repeat (first | exact Drawn0.refl _ | apply Drawn0.step)⟩

end Go.Proofs.Ytekijbcblajjbaa.PT
end
section
namespace Go.Proofs.Ytekijbcblajjbaa.PT
open Go.RowKit Go.Proofs.YtekijbcblajjbaaW.PrintWords Go.Proofs.YtekijbcblajjbaaW.PrintLast Go.Proofs.YtekijbcblajjbaaW.PrintMore
attribute [local go_sem] max2_int min2_int max_two min_two max_three min_three max_four min_four   -- for this text's walks alone
set_option linter.unusedVariables false
set_option linter.unusedSimpArgs false

/-! ### impl_FieldOK: function 53 -/
def impl_FieldOK.f (a0 : Int) : Option (Bool) := (impl_in.f a0 0 2130706432).bind fun t101 => (some t101)
set_option maxHeartbeats 8000000 in
set_option maxRecDepth 100000 in
theorem impl_FieldOK.calls (a0 : Int) (r : Bool) (w : World) (h : impl_FieldOK.f a0 = some r) :
    Calls Try.prog 53 #[.int .i64 a0] w fun e w' => e = .returned (.bool r) ∧ Drawn0 w w' := by
  have H : ((impl_in.f a0 0 2130706432).bind fun t101 => (some t101)) = some r := h
  clear h
  replace H := Option.bind_eq_some_iff.mp H
  obtain ⟨t101, A20, H⟩ := H
  replace H : (some t101) = some r := H
  have A2 := Aside0.mk A20
  clear A20
  obtain rfl := Option.some.inj H
  go_enter Try.func53, Try.ntmps53
  go_wp2_with (first | ((with_reducible refine gate_callee (f := 45) rfl ?_); refine goesL_ (some 4) rfl rfl Try.func45 (by kernel_rfl) rfl #[.int .i64 a0, .int .i64 0, .int .i64 2130706432] rfl qz4_ ?_; (with_reducible refine (impl_in.calls a0 0 2130706432 t101 _ A2.out).mono ?_); rintro e w' ⟨rfl, ⟨nd, rfl⟩⟩; refine ⟨_, rfl, ?_⟩))
  go_ret
  exact ⟨by first | rfl | (simp; done) | (simp [*]; done), by repeat (first | exact Drawn0.refl _ | apply Drawn0.step)⟩

end Go.Proofs.Ytekijbcblajjbaa.PT
end
section
namespace Go.Proofs.Ytekijbcblajjbaa.PT
open Go.RowKit Go.Proofs.YtekijbcblajjbaaW.PrintWords Go.Proofs.YtekijbcblajjbaaW.PrintLast Go.Proofs.YtekijbcblajjbaaW.PrintMore
attribute [local go_sem] max2_int min2_int max_two min_two max_three min_three max_four min_four   -- for this text's walks alone
set_option linter.unusedVariables false
set_option linter.unusedSimpArgs false

/-! ### impl_are_int_FieldOK: function 52 -/
def impl_are_int_FieldOK.p (x : Int) : Bool := (impl_FieldOK.f (x)).getD false
theorem impl_are_int_FieldOK.p_some (x : Int) : impl_FieldOK.f (x) = some (impl_are_int_FieldOK.p x) := by
  unfold impl_are_int_FieldOK.p
  have : ∃ b, impl_FieldOK.f (x) = some b := by
    simp only [impl_FieldOK.f, impl_in.f]
    repeat' (first | exact ⟨_, rfl⟩ | (split <;> try exact ⟨_, rfl⟩) | (simp only [Option.bind_some]))
  obtain ⟨b, hb⟩ := this
  rw [hb]; rfl
set_option maxHeartbeats 800000 in
theorem impl_are_int_FieldOK.clo (x : Int) (r : Bool) (hr : impl_FieldOK.f (x) = some r) (g : Nat) (w : World) (hg : w.cell? ⟨g, 0, none⟩ = some (.func (.func 53) #[] #[])) :
    Calls Try.prog 85 #[.int .i64 (x), .pointer (some ⟨g, 0, none⟩)] w fun e w' => e = .returned (.bool (!r)) ∧ Below w.heap.size w w' := by
  have hlt : g < w.heap.size := World.block_lt_of_cell? w _ hg
  have HB := Aside0.mk (Below.refl w.heap.size w)
  go_enter Try.func85, Try.ntmps85
  go_wp2_with (go_at_call 53; (refine (impl_FieldOK.calls (x) r _ hr).mono ?_); rintro e w' ⟨rfl, ⟨nd, rfl⟩⟩)
  go_ret
  exact ⟨by first | rfl | simp, by repeat (first | (with_reducible first | exact HB.out | apply below_alloc | apply pw_below_drewN | apply below_drew1) | exact HB.out | refine below_step ?_ hb)⟩

def impl_are_int_FieldOK.Idx (l : List (Int)) (w : World) (e : Ending) (w' : World) : Prop := ∃ j : Int, e = .returned (.int .i64 j) ∧ (decide (0 ≤ j) = !(l.all impl_are_int_FieldOK.p)) ∧ Below w.heap.size w w'
theorem impl_are_int_FieldOK.all_snoc (l : List (Int)) (k : Nat) (hk : k < l.length) (h : (l.take k).all impl_are_int_FieldOK.p = true) (h2 : impl_are_int_FieldOK.p (l.getD k 0) = true) : (l.take (k + 1)).all impl_are_int_FieldOK.p = true := by
  rw [List.take_succ_eq_append_getElem hk, List.all_append, h]
  simp [List.getD_eq_getElem?_getD, hk] at h2
  simp [h2]
theorem impl_are_int_FieldOK.all_not (l : List (Int)) (k : Nat) (hk : k < l.length) (h2 : impl_are_int_FieldOK.p (l.getD k 0) = false) : l.all impl_are_int_FieldOK.p = false := by
  rw [List.all_eq_false]
  simp [List.getD_eq_getElem?_getD, hk] at h2
  exact ⟨l[k], List.getElem_mem hk, by simp [h2]⟩

set_option maxHeartbeats 800000 in
theorem impl_are_int_FieldOK.idx (A0 : Option Addr) (c0 : Nat) (l0 : List (Int)) (g : Nat) (w : World) (hr0 : Kd.C (Kd.int .i64) w A0 l0.length l0) (hc0 : l0.length ≤ c0) (hm : l0.length ≤ 9223372036854775807) (hg : w.cell? ⟨g, 0, none⟩ = some (.func (.func 53) #[] #[])) :
    Calls Try.prog 102 #[.slice A0 l0.length c0, .func (.func 85) #[] #[.pointer (some ⟨g, 0, none⟩)]] w (impl_are_int_FieldOK.Idx l0 w) := by
  have HR0 := Aside0.mk hr0
  have HC0 := Aside0.mk hc0
  have HG := Aside0.mk hg
  clear hr0 hc0 hg
  have HB := Aside0.mk (Below.refl w.heap.size w)
  go_enter Try.func102, Try.ntmps102
  go_wp2
  go_loopg [8] l0.length (fun kq v8 w' => ∃ k : Nat, k + kq = l0.length ∧ v8 = .int .i64 k ∧ Aside0 ((l0.take k).all impl_are_int_FieldOK.p = true) ∧ Aside0 (Below w.heap.size w w'))
  case atStart => exact ⟨0, by omega, by first | rfl | simp, ⟨rfl⟩, ⟨by repeat (first | (with_reducible first | exact HB.out | apply below_alloc | apply pw_below_drewN | apply below_drew1) | exact HB.out)⟩⟩
  case round =>
    obtain ⟨k, hk, rfl, HA, HB⟩ := hrel
    cases gk with
    | zero =>
      have hge : decide ((k : Int) < (l0.length : Int)) = false := decide_eq_false (by omega)
      have hge2 : decide (k < l0.length) = false := decide_eq_false (by omega)
      have hkk : l0.take k = l0 := List.take_of_length_le (by omega)
      have HA2 := Aside0.mk (hkk ▸ HA.out)
      clear HA hkk
      go_wp2
      go_ret
      refine ⟨-1, rfl, ?_, by repeat (first | (with_reducible first | exact HB.out | apply below_alloc | apply pw_below_drewN | apply below_drew1) | exact HB.out)⟩
      rw [HA2.out]
      rfl
    | succ k1 =>
      have hlt : decide ((k : Int) < (l0.length : Int)) = true := decide_eq_true (by omega)
      have hlt2 : decide (k < l0.length) = true := decide_eq_true (by omega)
      have p_ : 0 ≤ (k : Int) := by omega
      have q_ : (k : Int) < (l0.length : Int) := by omega
      obtain ⟨ad, e_, hx_0⟩ := Kd.at_int HR0.out k p_ q_
      cases e_
      replace hx_0 := (HB.out.cell (World.block_lt_of_cell? w _ hx_0)).trans hx_0
      simp only [Int.toNat_natCast] at hx_0
      have hgc := Aside0.mk ((HB.out.cell (World.block_lt_of_cell? w _ HG.out)).trans HG.out)
      have hkl : k < l0.length := by omega
      have hrd : (rd l0 (k : Int)) = l0.getD k 0 := rfl
      by_cases hp : impl_are_int_FieldOK.p (rd l0 (k : Int)) = true
      · have hs := Aside0.mk ((impl_are_int_FieldOK.p_some (rd l0 (k : Int))).trans (congrArg some hp))
        have HA2 := Aside0.mk (impl_are_int_FieldOK.all_snoc l0 k hkl HA.out (hrd ▸ hp))
        clear hp HA hrd
        go_wp2_with (go_at_call 85; (refine (impl_are_int_FieldOK.clo (rd l0 (k : Int)) true hs.out g _ hgc.out).mono ?_); rintro e w' ⟨rfl, hb⟩; have n0_ := Aside0.mk (below_step qz1_ hb); clear HB; have HB := n0_; clear n0_; clear hb)
        go_roundg k1
        case measure => omega
        case rel => exact ⟨k + 1, by omega, by first | rfl | go_num, HA2, ⟨by repeat (first | (with_reducible first | exact HB.out | apply below_alloc | apply pw_below_drewN | apply below_drew1) | exact HB.out)⟩⟩
      · replace hp := Bool.eq_false_iff.mpr hp
        have hs := Aside0.mk ((impl_are_int_FieldOK.p_some (rd l0 (k : Int))).trans (congrArg some hp))
        have HA2 := Aside0.mk (impl_are_int_FieldOK.all_not l0 k hkl (hrd ▸ hp))
        clear hp HA hrd
        go_wp2_with (go_at_call 85; (refine (impl_are_int_FieldOK.clo (rd l0 (k : Int)) false hs.out g _ hgc.out).mono ?_); rintro e w' ⟨rfl, hb⟩; have n0_ := Aside0.mk (below_step qz1_ hb); clear HB; have HB := n0_; clear n0_; clear hb)
        go_ret
        exact ⟨(k : Int), rfl, by rw [HA2.out]; simp, by repeat (first | (with_reducible first | exact HB.out | apply below_alloc | apply pw_below_drewN | apply below_drew1) | exact HB.out)⟩
set_option maxHeartbeats 800000 in
theorem impl_are_int_FieldOK.con (A0 : Option Addr) (c0 : Nat) (l0 : List (Int)) (g : Nat) (w : World) (hr0 : Kd.C (Kd.int .i64) w A0 l0.length l0) (hc0 : l0.length ≤ c0) (hm : l0.length ≤ 9223372036854775807) (hg : w.cell? ⟨g, 0, none⟩ = some (.func (.func 53) #[] #[])) :
    Calls Try.prog 84 #[.slice A0 l0.length c0, .func (.func 85) #[] #[.pointer (some ⟨g, 0, none⟩)]] w fun e w' => e = .returned (.bool (!(l0.all impl_are_int_FieldOK.p))) ∧ Below w.heap.size w w' := by
  have HR0 := Aside0.mk hr0
  have HC0 := Aside0.mk hc0
  have HG := Aside0.mk hg
  clear hr0 hc0 hg
  go_enter Try.func84, Try.ntmps84
  go_wp2_with (go_at_call 102; (refine (impl_are_int_FieldOK.idx A0 c0 l0 g _ HR0.out HC0.out hm HG.out).mono ?_); rintro e w' ⟨j, rfl, hj, hb⟩; have HJ := Aside0.mk hj; clear hj)
  go_ret
  exact ⟨by rw [← HJ.out]; rfl, by repeat (first | exact hb | exact Below.refl _ _ | apply below_alloc | apply pw_below_drewN | apply below_drew1)⟩
def impl_are_int_FieldOK.f (l1 : List (Int)) : Option (Bool) := some (l1.all impl_are_int_FieldOK.p)
set_option maxHeartbeats 800000 in
theorem impl_are_int_FieldOK.calls (A1 : Option Addr) (c1 : Nat) (l1 : List (Int)) (r : Bool) (w : World) (hr1 : Kd.C (Kd.int .i64) w A1 l1.length l1) (hc1 : l1.length ≤ c1) (h : impl_are_int_FieldOK.f l1 = some r) :
    Calls Try.prog 52 #[(Value.func (.func 53) #[] #[]), .slice A1 l1.length c1] w fun e w' => e = .returned (.bool r) ∧ Below w.heap.size w w' := by
  unfold impl_are_int_FieldOK.f at h
  have hm : l1.length ≤ 9223372036854775807 := hr1.2.1
  · obtain rfl := Option.some.inj h
    have HR1 := Aside0.mk hr1
    have HC1 := Aside0.mk hc1
    clear hr1 hc1 h
    have HB := Aside0.mk (Below.refl w.heap.size w)
    go_enter Try.func52, Try.ntmps52
    go_wp2_with (go_at_call 84; (refine (impl_are_int_FieldOK.con A1 c1 l1 w.heap.size _ (Kd.C_below HR1.out qz1_) HC1.out hm (by first | rfl | simp)).mono ?_); rintro e w' ⟨rfl, hb⟩; have n0_ := Aside0.mk (below_step qz1_ hb); clear HB; have HB := n0_; clear n0_; clear hb)
    go_ret
    exact ⟨by first | rfl | simp, by repeat (first | (with_reducible first | exact HB.out | apply below_alloc | apply pw_below_drewN | apply below_drew1) | exact HB.out)⟩

end Go.Proofs.Ytekijbcblajjbaa.PT
end
section
namespace Go.Proofs.Ytekijbcblajjbaa.PT
open Go.RowKit Go.Proofs.YtekijbcblajjbaaW.PrintWords Go.Proofs.YtekijbcblajjbaaW.PrintLast Go.Proofs.YtekijbcblajjbaaW.PrintMore
attribute [local go_sem] max2_int min2_int max_two min_two max_three min_three max_four min_four   -- for this text's walks alone
set_option linter.unusedVariables false
set_option linter.unusedSimpArgs false

/-! ### impl_Circuit_countOf: function 97 -/
def impl_Circuit_countOf.l0 : Nat → Int → Int → List (S115) → Int → Int → Option (Int)
  | 0, _, _, _, _, _ => none
  | k + 1, x1, x5, x9, x10, x11 => if x11 < x10 then (if 0 ≤ x11 then (if x11 < (x9.length : Int) then (if ((rd_T115 x9 x11).f0) = x1 then (impl_Circuit_countOf.l0 k x1 (wrap64 (x5 + 1)) x9 x10 (wrap64 (x11 + 1))) else (impl_Circuit_countOf.l0 k x1 x5 x9 x10 (wrap64 (x11 + 1)))) else (none)) else (none)) else (some x5)
def impl_Circuit_countOf.f (k : Nat) (l0_0 : List (S115)) (a1 : Int) : Option (Int) := impl_Circuit_countOf.l0 k a1 0 l0_0 (l0_0.length : Int) 0
theorem impl_Circuit_countOf.mono_l : ∀ k, (∀ y0 y1 y2 y3 y4, LeO (impl_Circuit_countOf.l0 k y0 y1 y2 y3 y4) (impl_Circuit_countOf.l0 (k + 1) y0 y1 y2 y3 y4))
  | 0 => fun _ _ _ _ _ r h => by simp [impl_Circuit_countOf.l0] at h
  | k + 1 => by
    have ih0 := impl_Circuit_countOf.mono_l k
    · intro y0 y1 y2 y3 y4
      unfold impl_Circuit_countOf.l0
      repeat' first
      | (with_reducible exact ih0 _ _ _ _ _)
      | (with_reducible exact LeO.refl _)
      | (with_reducible exact LeO.none _)
      | (with_reducible refine LeO.ite ?_ ?_)
      | (with_reducible refine LeO.bind ?_ (fun _ => ?_))
      | exact ih0 _ _ _ _ _
      | exact LeO.none _
      | refine LeO.ite ?_ ?_
      | refine LeO.bind ?_ (fun _ => ?_)
theorem impl_Circuit_countOf.mono : ∀ a0 a1 k, LeO (impl_Circuit_countOf.f k a0 a1) (impl_Circuit_countOf.f (k + 1) a0 a1) := by
  intro a0 a1 k
  have ih0 := impl_Circuit_countOf.mono_l k
  unfold impl_Circuit_countOf.f
  repeat' first
      | (with_reducible exact ih0 _ _ _ _ _)
      | (with_reducible exact LeO.refl _)
      | (with_reducible exact LeO.none _)
      | (with_reducible refine LeO.ite ?_ ?_)
      | (with_reducible refine LeO.bind ?_ (fun _ => ?_))
      | exact ih0 _ _ _ _ _
      | exact LeO.none _
      | refine LeO.ite ?_ ?_
      | refine LeO.bind ?_ (fun _ => ?_)
set_option maxHeartbeats 8000000 in
set_option maxRecDepth 100000 in
theorem impl_Circuit_countOf.calls (k : Nat) (A0_0 : Option Addr) (c0_0 : Nat) (l0_0 : List (S115)) (a1 : Int) (r : Int) (w : World) (hr0_0 : Kd.C k115 w A0_0 l0_0.length l0_0) (hc0_0 : l0_0.length ≤ c0_0) (h : impl_Circuit_countOf.f k l0_0 a1 = some r) :
    Calls Try.prog 97 #[.agg #[.slice A0_0 l0_0.length c0_0], .int .i64 a1] w fun e w' => e = .returned (.int .i64 r) ∧ Below w.heap.size w w' := by
  have hu63 := Try.underlying63
  have hu115 := Try.underlying115
  have HR0_0 := Aside0.mk hr0_0
  have HC0_0 := Aside0.mk hc0_0
  clear hr0_0 hc0_0
  have HB := Aside0.mk (Below.refl w.heap.size w)
  have H : (impl_Circuit_countOf.l0 k a1 0 l0_0 (l0_0.length : Int) 0) = some r := h
  clear h
  have H' := Aside0.mk H
  clear H
  go_enter Try.func97, Try.ntmps97
  go_wp2_with (first | ((with_reducible refine gate_dst (N := 2) rfl ?_); refine box_event ?hg (N := 2) ?hd (cs := #[.slice A0_0 l0_0.length c0_0]) (t := 63) ?hr ?_; (case hd => rfl); (case hg => rfl); (case hr => first | (go_simp; done) | (go_simp; rfl)); intro gb101 hg w3 hbox hb; have n0_ := Aside0.mk (below_step qz1_ hb); have n1_ := Aside0.mk (hbox); have n2_ := Aside0.mk ((by rw [hg]; exact (below_size qz1_) : w.heap.size ≤ gb101)); have n3_ := Aside0.mk ((by rw [hg]; exact (below_size qz1_) : w.heap.size ≤ gb101)); clear HB; have HB := n0_; have BK101 := n1_; have GW101 := n2_; have GE101 := n3_; clear n0_ n1_ n2_ n3_; clear hb hbox hg; have hcz4_0 : w3.cell? ⟨gb101, 0, none⟩ = some (.slice A0_0 l0_0.length c0_0) := (blk_cell BK101.out 0).trans rfl; have hfz4_0 := blk_frozen BK101.out 0))
  go_loopg [5, 11] k (fun kq v5 v11 w' => ∃ (x5_1 : Int) (x11_1 : Int), v5 = .int .i64 x5_1 ∧ v11 = .int .i64 x11_1 ∧ Aside0 (impl_Circuit_countOf.l0 kq a1 x5_1 l0_0 (l0_0.length : Int) x11_1 = some r) ∧ Aside0 (kq ≤ k) ∧ Aside0 (w'.heap[gb101]? = some (.cells #[(.slice A0_0 l0_0.length c0_0)] 63 (0, 0))) ∧ Aside0 (Below w.heap.size w w'))
  case atStart => exact ⟨(0), (0), qz2_, qz2_, H', ⟨Nat.le_refl _⟩, ⟨by (with_reducible repeat (first | refine blk_drewN ?_ _ | refine blk_drew ?_ | refine blk_alloc ?_ _)); exact BK101.out⟩, ⟨by repeat (first | (with_reducible first | exact HB.out | apply below_alloc | apply pw_below_drewN | apply below_drew1 | refine below_set ?_ GE101.out) | exact HB.out)⟩⟩
  case round =>
    clear H'
    try clear p2
    try clear hcz4_0
    try clear hfz4_0
    obtain ⟨x5_1, x11_1, rfl, rfl, HA, HK1, BK101, HB⟩ := hrel
    cases gk with
    | zero => exact absurd HA.out (by simp [impl_Circuit_countOf.l0])
    | succ k1 =>
      have H := HA.out
      clear HA
      simp only [impl_Circuit_countOf.l0] at H
      by_cases c5 : x11_1 < (l0_0.length : Int)
      · rw [if_pos c5] at H
        have c5b0 : decide (x11_1 < (l0_0.length : Int)) = true := decide_eq_true c5
        clear c5
        by_cases c6 : 0 ≤ x11_1
        · rw [if_pos c6] at H
          have c6b0 : decide (0 ≤ x11_1) = true := decide_eq_true c6
          clear c6
          by_cases c7 : x11_1 < (l0_0.length : Int)
          · rw [if_pos c7] at H
            have c7b0 : decide (x11_1 < (l0_0.length : Int)) = true := decide_eq_true c7
            clear c7
            by_cases c8 : ((rd_T115 l0_0 x11_1).f0) = a1
            · rw [if_pos c8] at H
              have c8b0 : (((rd_T115 l0_0 x11_1).f0) == a1) = true := beq_iff_eq.mpr c8
              have c8b1 : (((rd_T115 l0_0 x11_1).f0) != a1) = false := bne_eq_false_iff_eq.mpr c8
              clear c8
              have H' := Aside0.mk H
              clear H
              have p102 : 0 ≤ (x11_1 : Int) := of_decide_eq_true qz0_
              have q102 : x11_1 < (l0_0.length : Int) := of_decide_eq_true qz0_
              obtain ⟨ad102, e102, hx102_0, hx102_1, hx102_2, hx102_3⟩ := at_T115 HR0_0.out x11_1 p102 q102
              cases e102
              replace hx102_0 := (HB.out.cell (World.block_lt_of_cell? w _ hx102_0)).trans hx102_0
              replace hx102_1 := (HB.out.cell (World.block_lt_of_cell? w _ hx102_1)).trans hx102_1
              replace hx102_2 := (HB.out.cell (World.block_lt_of_cell? w _ hx102_2)).trans hx102_2
              replace hx102_3 := (HB.out.cell (World.block_lt_of_cell? w _ hx102_3)).trans hx102_3
              replace p102 := eq_true p102
              replace q102 := eq_true q102
              go_wp2_with (first | ((with_reducible refine gate_dst (N := 7) rfl ?_); refine box_event ?hg (N := 7) ?hd (cs := #[.int .i64 0, .int .i64 0, .int .i64 0, .int .i64 0]) (t := 115) ?hr ?_; (case hd => rfl); (case hg => rfl); (case hr => first | (go_simp; done) | (go_simp; rfl)); intro gb103 hg w9 hbox hb; have n0_ := Aside0.mk (blk_below (g := gb101) (o := .cells #[.slice (some ad102) l0_0.length c0_0] 63 (0, 0)) qz5_ hb); have n1_ := Aside0.mk (below_step qz6_ hb); have n2_ := Aside0.mk (hbox); have n3_ := Aside0.mk ((by rw [hg]; exact (below_size qz6_) : w.heap.size ≤ gb103)); have n4_ := Aside0.mk ((by rw [hg]; exact (below_size qz6_) : w.heap.size ≤ gb103)); have n5_ := Aside0.mk ((by rw [hg]; exact Nat.ne_of_lt (blk_lt (g := gb101) (o := .cells #[.slice (some ad102) l0_0.length c0_0] 63 (0, 0)) qz5_) : gb101 ≠ gb103)); have n6_ := Aside0.mk ((by rw [hg]; exact Nat.ne_of_gt (blk_lt (g := gb101) (o := .cells #[.slice (some ad102) l0_0.length c0_0] 63 (0, 0)) qz5_) : gb103 ≠ gb101)); clear BK101; clear HB; have BK101 := n0_; have HB := n1_; have BK103 := n2_; have GW103 := n3_; have GE103 := n4_; have NB101_103 := n5_; have NB103_101 := n6_; clear n0_ n1_ n2_ n3_ n4_ n5_ n6_; clear hb hbox hg; have hnb10 := NB103_101.out; have hnc10 := NB101_103.out; have hcz11_0 : w9.cell? ⟨gb103, 0, none⟩ = some (.int .i64 0) := (blk_cell BK103.out 0).trans rfl; have hcz11_1 : w9.cell? ⟨gb103, 1, none⟩ = some (.int .i64 0) := (blk_cell BK103.out 1).trans rfl; have hcz11_2 : w9.cell? ⟨gb103, 2, none⟩ = some (.int .i64 0) := (blk_cell BK103.out 2).trans rfl; have hcz11_3 : w9.cell? ⟨gb103, 3, none⟩ = some (.int .i64 0) := (blk_cell BK103.out 3).trans rfl; have hfz11_0 := blk_frozen BK103.out 0; have hfz11_1 := blk_frozen BK103.out 1; have hfz11_2 := blk_frozen BK103.out 2; have hfz11_3 := blk_frozen BK103.out 3))
              go_roundg k1
              case measure => have := HK1.out; omega
              case rel => exact ⟨(wrap64 (x5_1 + 1)), (wrap64 (x11_1 + 1)), qz2_, qz2_, H', ⟨by have := HK1.out; omega⟩, ⟨by (with_reducible repeat (first | refine blk_drewN ?_ _ | refine blk_drew ?_ | refine blk_alloc ?_ _)); refine blk_far ?_ NB101_103.out _; (with_reducible repeat (first | refine blk_drewN ?_ _ | refine blk_drew ?_ | refine blk_alloc ?_ _)); refine blk_far ?_ NB101_103.out _; (with_reducible repeat (first | refine blk_drewN ?_ _ | refine blk_drew ?_ | refine blk_alloc ?_ _)); refine blk_far ?_ NB101_103.out _; (with_reducible repeat (first | refine blk_drewN ?_ _ | refine blk_drew ?_ | refine blk_alloc ?_ _)); refine blk_far ?_ NB101_103.out _; (with_reducible repeat (first | refine blk_drewN ?_ _ | refine blk_drew ?_ | refine blk_alloc ?_ _)); exact BK101.out⟩, ⟨by repeat (first | (with_reducible first | exact HB.out | apply below_alloc | apply pw_below_drewN | apply below_drew1 | refine below_set ?_ GE101.out | refine below_set ?_ GE103.out) | exact HB.out)⟩⟩
            · rw [if_neg c8] at H
              have c8b0 : (((rd_T115 l0_0 x11_1).f0) == a1) = false := beq_eq_false_iff_ne.mpr c8
              have c8b1 : (((rd_T115 l0_0 x11_1).f0) != a1) = true := bne_iff_ne.mpr c8
              have H' := Aside0.mk H
              clear H
              have p102 : 0 ≤ (x11_1 : Int) := of_decide_eq_true qz0_
              have q102 : x11_1 < (l0_0.length : Int) := of_decide_eq_true qz0_
              obtain ⟨ad102, e102, hx102_0, hx102_1, hx102_2, hx102_3⟩ := at_T115 HR0_0.out x11_1 p102 q102
              cases e102
              replace hx102_0 := (HB.out.cell (World.block_lt_of_cell? w _ hx102_0)).trans hx102_0
              replace hx102_1 := (HB.out.cell (World.block_lt_of_cell? w _ hx102_1)).trans hx102_1
              replace hx102_2 := (HB.out.cell (World.block_lt_of_cell? w _ hx102_2)).trans hx102_2
              replace hx102_3 := (HB.out.cell (World.block_lt_of_cell? w _ hx102_3)).trans hx102_3
              replace p102 := eq_true p102
              replace q102 := eq_true q102
              go_wp2_with (first | ((with_reducible refine gate_dst (N := 7) rfl ?_); refine box_event ?hg (N := 7) ?hd (cs := #[.int .i64 0, .int .i64 0, .int .i64 0, .int .i64 0]) (t := 115) ?hr ?_; (case hd => rfl); (case hg => rfl); (case hr => first | (go_simp; done) | (go_simp; rfl)); intro gb103 hg w12 hbox hb; have n0_ := Aside0.mk (blk_below (g := gb101) (o := .cells #[.slice (some ad102) l0_0.length c0_0] 63 (0, 0)) qz5_ hb); have n1_ := Aside0.mk (below_step qz6_ hb); have n2_ := Aside0.mk (hbox); have n3_ := Aside0.mk ((by rw [hg]; exact (below_size qz6_) : w.heap.size ≤ gb103)); have n4_ := Aside0.mk ((by rw [hg]; exact (below_size qz6_) : w.heap.size ≤ gb103)); have n5_ := Aside0.mk ((by rw [hg]; exact Nat.ne_of_lt (blk_lt (g := gb101) (o := .cells #[.slice (some ad102) l0_0.length c0_0] 63 (0, 0)) qz5_) : gb101 ≠ gb103)); have n6_ := Aside0.mk ((by rw [hg]; exact Nat.ne_of_gt (blk_lt (g := gb101) (o := .cells #[.slice (some ad102) l0_0.length c0_0] 63 (0, 0)) qz5_) : gb103 ≠ gb101)); clear BK101; clear HB; have BK101 := n0_; have HB := n1_; have BK103 := n2_; have GW103 := n3_; have GE103 := n4_; have NB101_103 := n5_; have NB103_101 := n6_; clear n0_ n1_ n2_ n3_ n4_ n5_ n6_; clear hb hbox hg; have hnb13 := NB103_101.out; have hnc13 := NB101_103.out; have hcz14_0 : w12.cell? ⟨gb103, 0, none⟩ = some (.int .i64 0) := (blk_cell BK103.out 0).trans rfl; have hcz14_1 : w12.cell? ⟨gb103, 1, none⟩ = some (.int .i64 0) := (blk_cell BK103.out 1).trans rfl; have hcz14_2 : w12.cell? ⟨gb103, 2, none⟩ = some (.int .i64 0) := (blk_cell BK103.out 2).trans rfl; have hcz14_3 : w12.cell? ⟨gb103, 3, none⟩ = some (.int .i64 0) := (blk_cell BK103.out 3).trans rfl; have hfz14_0 := blk_frozen BK103.out 0; have hfz14_1 := blk_frozen BK103.out 1; have hfz14_2 := blk_frozen BK103.out 2; have hfz14_3 := blk_frozen BK103.out 3))
              go_roundg k1
              case measure => have := HK1.out; omega
              case rel => exact ⟨(x5_1), (wrap64 (x11_1 + 1)), qz2_, qz2_, H', ⟨by have := HK1.out; omega⟩, ⟨by (with_reducible repeat (first | refine blk_drewN ?_ _ | refine blk_drew ?_ | refine blk_alloc ?_ _)); refine blk_far ?_ NB101_103.out _; (with_reducible repeat (first | refine blk_drewN ?_ _ | refine blk_drew ?_ | refine blk_alloc ?_ _)); refine blk_far ?_ NB101_103.out _; (with_reducible repeat (first | refine blk_drewN ?_ _ | refine blk_drew ?_ | refine blk_alloc ?_ _)); refine blk_far ?_ NB101_103.out _; (with_reducible repeat (first | refine blk_drewN ?_ _ | refine blk_drew ?_ | refine blk_alloc ?_ _)); refine blk_far ?_ NB101_103.out _; (with_reducible repeat (first | refine blk_drewN ?_ _ | refine blk_drew ?_ | refine blk_alloc ?_ _)); exact BK101.out⟩, ⟨by repeat (first | (with_reducible first | exact HB.out | apply below_alloc | apply pw_below_drewN | apply below_drew1 | refine below_set ?_ GE101.out | refine below_set ?_ GE103.out) | exact HB.out)⟩⟩
          · rw [if_neg c7] at H
            exact absurd H (by simp)
        · rw [if_neg c6] at H
          exact absurd H (by simp)
      · rw [if_neg c5] at H
        have c5b0 : decide (x11_1 < (l0_0.length : Int)) = false := decide_eq_false c5
        clear c5
        obtain rfl := Option.some.inj H
        go_wp2
        go_ret
        exact ⟨by first | rfl | (simp [errW_none, errW_some] <;> rfl) | (simp [*, errW_none, errW_some] <;> rfl), by repeat (first | (with_reducible first | exact HB.out | apply below_alloc | apply pw_below_drewN | apply below_drew1 | refine below_set ?_ GE101.out) | exact HB.out)⟩

end Go.Proofs.Ytekijbcblajjbaa.PT
end
