/- Part 2 of the proof of FnExactSystemDigest: what functions compute, shown step by step, and what that says (the claim's last text states the law). -/
import Derived.Test.YtgookagndlfehaaProg
import Derived.Test.YtgookagndlfehaaVMore
import Derived.Test.YtgookagndlfehaaVWords
import Derived.Test.YtgookagndlfehaaVLast
import Derived.Test.YtgookagndlfehaaVTab
import Derived.Test.YtgookagndlfehaaVFour
import Derived.Test.YtgookagndlfehaaVQPut
import Derived.Test.YtgookagndlfehaaVApart
import Derived.Test.YtgookagndlfehaaVArr
import Derived.Test.YtgookagndlfehaaVZeros
import Derived.Test.YtgookagndlfehaaVFoot
import Derived.Test.YtgookagndlfehaaVKept
import Derived.Test.YtgookagndlfehaaVShare
import Derived.Test.YtgookagndlfehaaVN
import Derived.Test.YtgookagndlfehaaVRepsOne
import Derived.Test.YtgookagndlfehaaVNEv
import Derived.Test.YtgookagndlfehaaRows
import Derived.JoinedOf
import Derived.WalkKit
import Derived.ProofKit
import Derived.Below
import Derived.Deep.Draws
import Derived.Deep.AppendLies
import Derived.Maps.AppendAt
import Derived.OwnWalk
import Derived.Laws.BytesArg
import Derived.Laws.MakeOwn
import Derived.Laws.OwnMore
import Derived.Deep.OwnRows
import Derived.Tactics
import Derived.Lib.ConvBytes
import Derived.Laws.Slices
import Derived.KernelRfl
import Derived.RowKit3
import Derived.Deep.LoopGhost
import Derived.Deep.QuietTactic
import Derived.BigQuiet
import Derived.WideLaws
import Derived.Deep.DeepCutAuto
import Derived.Deep.CutBlock
import Derived.Deep.RegionHeld3
import Derived.Laws.Rows
import Derived.Lib.AppendStr
import Derived.ArgAppend
import Derived.Laws.IdiomCopy
import Derived.OrdersHeld
import Derived.Laws.BitsLemmas
import Derived.RowKit
import Derived.Deep.DeepMust
import Derived.Laws.CopyOwn
import Derived.OpenShut
import Derived.ShutString
import Derived.ChangeOld
import Derived.SizedLaws
import Derived.Deep.Slices
import Derived.ChangeArms
import Derived.Shelf.Small.Bits
import Derived.Shelf.Strconv.Itoa0
import Derived.Test.YtgookagndlfehaaZFnExactSystemDigest1
section
namespace Go.Proofs.Ytgookagndlfehaa.PT
open Go.RowKit Go.Proofs.YtgookagndlfehaaW.PrintWords Go.Proofs.YtgookagndlfehaaW.PrintLast Go.Proofs.YtgookagndlfehaaW.PrintMore
attribute [local go_sem] max2_int min2_int max_two min_two max_three min_three max_four min_four   -- for this text's walks alone
set_option linter.unusedVariables false
set_option linter.unusedSimpArgs false
mutual
def spec_l10Digest.l0 : Nat → ByteArray → List (List (S126)) → Int → Option (ByteArray)
 | 0, _, _, _ => none
 | k + 1, x3, x4, x5 => if x5 < 3 then (if 0 ≤ x5 then (if x5 < (x4.length : Int) then ((spec_l02Number.f k ((rd_L5 x4 x5).length : Int) 4).bind fun t110 => (if x3.size + (strOfNums t110).size ≤ 9223372036854775807 then (spec_l10Digest.l1 k (x3 ++ (strOfNums t110)) x4 x5 0) else (none))) else (none)) else (none)) else ((spec_l03Hash.f x3).bind fun t108 => (some t108))
def spec_l10Digest.l1 : Nat → ByteArray → List (List (S126)) → Int → Int → Option (ByteArray)
 | 0, _, _, _, _ => none
 | k + 1, x3, x4, x5, x6 => if 0 ≤ x5 then (if x5 < (x4.length : Int) then (if x6 < ((rd_L5 x4 x5).length : Int) then (if 0 ≤ x6 then ((some (([((rd_T126 (rd_L5 x4 x5) x6).f0) % 256, ((rd_T126 (rd_L5 x4 x5) x6).f1) % 256] : List Int) : List Int)).bind fun y117 => ((spec_l02Number.f k ((rd_T126 (rd_L5 x4 x5) x6).f2) 4).bind fun t120 => (if (strOfNums y117).size + (strOfNums t120).size ≤ 9223372036854775807 then (if x3.size + ((strOfNums y117) ++ (strOfNums t120)).size ≤ 9223372036854775807 then (spec_l10Digest.l1 k (x3 ++ ((strOfNums y117) ++ (strOfNums t120))) x4 x5 (wrap64 (x6 + 1))) else (none)) else (none)))) else (none)) else (spec_l10Digest.l0 k x3 x4 (wrap64 (x5 + 1)))) else (none)) else (none)
end
def spec_l10Digest.f (k : Nat) (a0_0 : Int) (a0_1 : Int) (a0_2 : Int) (l0_3 : List (S126)) (l0_4 : List (S126)) (l0_5 : List (S126)) : Option (ByteArray) := (some (([(a0_0) % 256, (a0_1) % 256, (a0_2) % 256] : List Int) : List Int)).bind fun y102 => (if 6 + (strOfNums y102).size ≤ 9223372036854775807 then (spec_l10Digest.l0 k ((⟨#[115, 121, 115, 116, 101, 109]⟩ : ByteArray) ++ (strOfNums y102)) (([l0_3, l0_4, l0_5] : List (List (S126)))) 0) else (none))
theorem spec_l10Digest.mono_l : ∀ k, (∀ y0 y1 y2, LeO (spec_l10Digest.l0 k y0 y1 y2) (spec_l10Digest.l0 (k + 1) y0 y1 y2)) ∧ (∀ y0 y1 y2 y3, LeO (spec_l10Digest.l1 k y0 y1 y2 y3) (spec_l10Digest.l1 (k + 1) y0 y1 y2 y3))
 | 0 => ⟨fun _ _ _ r h => by simp [spec_l10Digest.l0] at h, fun _ _ _ _ r h => by simp [spec_l10Digest.l1] at h⟩
 | k + 1 => by
  obtain ⟨ih0, ih1⟩ := spec_l10Digest.mono_l k
  refine ⟨?_, ?_⟩
  ·
   intro y0 y1 y2
   unfold spec_l10Digest.l0
   repeat' first
   | (with_reducible exact ih0 _ _ _)
   | (with_reducible exact ih1 _ _ _ _)
   | (with_reducible exact spec_l02Number.mono _ _ _)
   | (with_reducible exact LeO.refl _)
   | (with_reducible exact LeO.none _)
   | (with_reducible refine LeO.ite ?_ ?_)
   | (with_reducible refine LeO.bind ?_ (fun _ => ?_))
   | exact ih0 _ _ _
   | exact ih1 _ _ _ _
   | exact spec_l02Number.mono _ _ _
   | exact LeO.none _
   | refine LeO.ite ?_ ?_
   | refine LeO.bind ?_ (fun _ => ?_)
  ·
   intro y0 y1 y2 y3
   unfold spec_l10Digest.l1
   repeat' first
   | (with_reducible exact ih0 _ _ _)
   | (with_reducible exact ih1 _ _ _ _)
   | (with_reducible exact spec_l02Number.mono _ _ _)
   | (with_reducible exact LeO.refl _)
   | (with_reducible exact LeO.none _)
   | (with_reducible refine LeO.ite ?_ ?_)
   | (with_reducible refine LeO.bind ?_ (fun _ => ?_))
   | exact ih0 _ _ _
   | exact ih1 _ _ _ _
   | exact spec_l02Number.mono _ _ _
   | exact LeO.none _
   | refine LeO.ite ?_ ?_
   | refine LeO.bind ?_ (fun _ => ?_)
theorem spec_l10Digest.mono : ∀ a0 a1 a2 a3 a4 a5 k, LeO (spec_l10Digest.f k a0 a1 a2 a3 a4 a5) (spec_l10Digest.f (k + 1) a0 a1 a2 a3 a4 a5) := by
 intro a0 a1 a2 a3 a4 a5 k
 obtain ⟨ih0, ih1⟩ := spec_l10Digest.mono_l k
 unfold spec_l10Digest.f
 repeat' first
   | (with_reducible exact ih0 _ _ _)
   | (with_reducible exact ih1 _ _ _ _)
   | (with_reducible exact spec_l02Number.mono _ _ _)
   | (with_reducible exact LeO.refl _)
   | (with_reducible exact LeO.none _)
   | (with_reducible refine LeO.ite ?_ ?_)
   | (with_reducible refine LeO.bind ?_ (fun _ => ?_))
   | exact ih0 _ _ _
   | exact ih1 _ _ _ _
   | exact spec_l02Number.mono _ _ _
   | exact LeO.none _
   | refine LeO.ite ?_ ?_
   | refine LeO.bind ?_ (fun _ => ?_)
def spec_l10Digest.T11 : Bool × List (List Nat × List Nat) := (true, [([], []), ([], []), ([1], [1]), ([2], [2]), ([], []), ([4], [4]), ([5], [5]), ([3, 6], [3, 6]), ([7], [7]), ([], []), ([9], [9]), ([10], [10]), ([11], [11]), ([8, 12], [8, 12]), ([0, 13], [0, 13]), ([14, 11, 0, 1, 2, 3, 4, 5, 6, 7, 8, 9, 10, 11, 12, 13, 14], [0, 14])])
def spec_l10Digest.B11 : List Nat := [0, 0, 2, 6, 0, 16, 48, 126, 254, 0, 512, 1536, 3584, 8190, 16383, 32767]
theorem spec_l10Digest.tab11 : rtab .any (opsOf Try.f53 11) = spec_l10Digest.T11 := by kernel_rfl
theorem spec_l10Digest.bits11 : waitsOk spec_l10Digest.T11.2 spec_l10Digest.B11 = true := by kernel_rfl
set_option maxHeartbeats 8000000 in
set_option maxRecDepth 100000 in
theorem spec_l10Digest.calls (k : Nat) (a0_0 : Int) (a0_1 : Int) (a0_2 : Int) (P0_3_ : Nat → Prop) (A0_3 : Option Addr) (c0_3 : Nat) (l0_3 : List (S126)) (P0_4_ : Nat → Prop) (A0_4 : Option Addr) (c0_4 : Nat) (l0_4 : List (S126)) (P0_5_ : Nat → Prop) (A0_5 : Option Addr) (c0_5 : Nat) (l0_5 : List (S126)) (r : ByteArray) (w : World) (hs0_3 : Kd.V k126 126 w w.heap.size (fun k_ => P0_3_ k_) (.slice A0_3 l0_3.length c0_3) l0_3) (hs0_4 : Kd.V k126 126 w w.heap.size (fun k_ => P0_4_ k_) (.slice A0_4 l0_4.length c0_4) l0_4) (hs0_5 : Kd.V k126 126 w w.heap.size (fun k_ => P0_5_ k_) (.slice A0_5 l0_5.length c0_5) l0_5) (h : spec_l10Digest.f k a0_0 a0_1 a0_2 l0_3 l0_4 l0_5 = some r) :
  Calls Try.prog 53 #[.agg #[.int .i64 a0_0, .int .i64 a0_1, .int .i64 a0_2, .slice A0_3 l0_3.length c0_3, .slice A0_4 l0_4.length c0_4, .slice A0_5 l0_5.length c0_5]] w fun e w' => e = .returned (.string r) ∧ Below w.heap.size w w' := by
 have hu46 := Try.underlying46
 have hu126 := Try.underlying126
 have HO0_3 := am_ (show Kd.V k126 126 w w.heap.size (fun k_ => ((P0_3_ k_ ∨ P0_4_ k_ ∨ P0_5_ k_) ∨ w.heap.size ≤ k_)) (.slice A0_3 l0_3.length c0_3) l0_3 from Kd.V_mono hs0_3 (fun k_ hk => .inl (.inl hk)))
 have HO0_4 := am_ (show Kd.V k126 126 w w.heap.size (fun k_ => ((P0_3_ k_ ∨ P0_4_ k_ ∨ P0_5_ k_) ∨ w.heap.size ≤ k_)) (.slice A0_4 l0_4.length c0_4) l0_4 from Kd.V_mono hs0_4 (fun k_ hk => .inl (.inr (.inl hk))))
 have HO0_5 := am_ (show Kd.V k126 126 w w.heap.size (fun k_ => ((P0_3_ k_ ∨ P0_4_ k_ ∨ P0_5_ k_) ∨ w.heap.size ≤ k_)) (.slice A0_5 l0_5.length c0_5) l0_5 from Kd.V_mono hs0_5 (fun k_ hk => .inl (.inr (.inr hk))))
 have HB := am_ (Below.refl w.heap.size w)
 have H : ((some (([(a0_0) % 256, (a0_1) % 256, (a0_2) % 256] : List Int) : List Int)).bind fun y102 => (if 6 + (strOfNums y102).size ≤ 9223372036854775807 then (spec_l10Digest.l0 k ((⟨#[115, 121, 115, 116, 101, 109]⟩ : ByteArray) ++ (strOfNums y102)) (([l0_3, l0_4, l0_5] : List (List (S126)))) 0) else (none))) = some r := h
 clear h
 obtain ⟨y102, hy102⟩ : ∃ y_ : List Int, y_ = (([(a0_0) % 256, (a0_1) % 256, (a0_2) % 256] : List Int)) := ⟨_, rfl⟩
 replace H : (if 6 + (strOfNums y102).size ≤ 9223372036854775807 then (spec_l10Digest.l0 k ((⟨#[115, 121, 115, 116, 101, 109]⟩ : ByteArray) ++ (strOfNums y102)) (([l0_3, l0_4, l0_5] : List (List (S126)))) 0) else (none)) = some r := by first | (rw [hy102]; with_reducible exact H) | (have H2_ := (Option.bind_some _ _).symm.trans H; rw [hy102]; with_reducible exact H2_) | (have H2_ := (Option.bind_some _ _).symm.trans H; with_reducible exact H2_) | with_reducible exact H | (rw [hy102]; exact H) | exact H
 have Ny102 := am_ hy102
 clear hy102
 by_cases c2 : 6 + (strOfNums y102).size ≤ 9223372036854775807
 ·
  rw [if_pos c2] at H
  have c2b0 := eq_true c2
  have c2b1 : decide (6 + (strOfNums y102).size ≤ 9223372036854775807) = true := decide_eq_true c2
  try have c2b2 : (9223372036854775807 < 6 + (strOfNums y102).size) = False := eq_false (Nat.not_lt.2 c2)
  obtain ⟨y105, hy105⟩ : ∃ y_ : List (List (S126)), y_ = (([l0_3, l0_4, l0_5] : List (List (S126)))) := ⟨_, rfl⟩
  replace H : (spec_l10Digest.l0 k ((⟨#[115, 121, 115, 116, 101, 109]⟩ : ByteArray) ++ (strOfNums y102)) y105 0) = some r := by first | (rw [hy105]; with_reducible exact H) | (have H2_ := (Option.bind_some _ _).symm.trans H; rw [hy105]; with_reducible exact H2_) | (have H2_ := (Option.bind_some _ _).symm.trans H; with_reducible exact H2_) | with_reducible exact H | (rw [hy105]; exact H) | exact H
  have Ny105 := am_ hy105
  clear hy105
  have H' := am_ H
  clear H
  go_enter Try.func53, Try.ntmps53
  go_wp2_with (first | ((with_reducible refine gate_dst (N := 1) rfl ?_); refine box_event ?hg (N := 1) ?hd (cs := #[.int .i64 a0_0, .int .i64 a0_1, .int .i64 a0_2, .slice A0_3 l0_3.length c0_3, .slice A0_4 l0_4.length c0_4, .slice A0_5 l0_5.length c0_5]) (t := 46) ?hr ?_; (case hd => rfl); (case hg => rfl); (case hr => first | (go_simp; done) | (go_simp; rfl)); intro gb101 hg w3 hbox hb; have n0_ := am_ (Kd.V_below (Kd.V_elderB (by (with_reducible repeat (first | apply Kd.V_alloc | apply Kd.V_drewN | apply Kd.V_drew)); exact HO0_3.out) gb101 (Nat.le_of_eq hg.symm)) hb); have n1_ := am_ (Kd.V_below (Kd.V_elderB (by (with_reducible repeat (first | apply Kd.V_alloc | apply Kd.V_drewN | apply Kd.V_drew)); exact HO0_4.out) gb101 (Nat.le_of_eq hg.symm)) hb); have n2_ := am_ (Kd.V_below (Kd.V_elderB (by (with_reducible repeat (first | apply Kd.V_alloc | apply Kd.V_drewN | apply Kd.V_drew)); exact HO0_5.out) gb101 (Nat.le_of_eq hg.symm)) hb); have n3_ := am_ (below_step qz2_ hb); have n4_ := am_ (hbox); have n5_ := am_ ((by rw [hg]; exact (below_size qz2_) : w.heap.size ≤ gb101)); have n6_ := am_ ((by rw [hg]; exact (below_size qz2_) : w.heap.size ≤ gb101)); clear HO0_3; clear HO0_4; clear HO0_5; clear HB; have HO0_3 := n0_; have HO0_4 := n1_; have HO0_5 := n2_; have HB := n3_; have BK101 := n4_; have GW101 := n5_; have GE101 := n6_; clear n0_ n1_ n2_ n3_ n4_ n5_ n6_; clear hb hbox hg; have hcz4_0 : w3.cell? ⟨gb101, 0, none⟩ = some (.int .i64 a0_0) := (blk_cell BK101.out 0).trans rfl; have hcz4_1 : w3.cell? ⟨gb101, 1, none⟩ = some (.int .i64 a0_1) := (blk_cell BK101.out 1).trans rfl; have hcz4_2 : w3.cell? ⟨gb101, 2, none⟩ = some (.int .i64 a0_2) := (blk_cell BK101.out 2).trans rfl; have hcz4_3 : w3.cell? ⟨gb101, 3, none⟩ = some (.slice A0_3 l0_3.length c0_3) := (blk_cell BK101.out 3).trans rfl; have hcz4_4 : w3.cell? ⟨gb101, 4, none⟩ = some (.slice A0_4 l0_4.length c0_4) := (blk_cell BK101.out 4).trans rfl; have hcz4_5 : w3.cell? ⟨gb101, 5, none⟩ = some (.slice A0_5 l0_5.length c0_5) := (blk_cell BK101.out 5).trans rfl; have hfz4_0 := blk_frozen BK101.out 0; have hfz4_1 := blk_frozen BK101.out 1; have hfz4_2 := blk_frozen BK101.out 2; have hfz4_3 := blk_frozen BK101.out 3; have hfz4_4 := blk_frozen BK101.out 4; have hfz4_5 := blk_frozen BK101.out 5) | ((with_reducible refine gate_dst (N := 17) rfl ?_); refine Kd.R_lit (Kd.int .u8) _ 5 ?hg (N := 17) ?hd (xs := ([(a0_0) % 256, (a0_1) % 256, (a0_2) % 256] : List Int)) (inner := [.int .u8 ((a0_0) % 256), .int .u8 ((a0_1) % 256), .int .u8 ((a0_2) % 256)]) (ok := fun _ => True) (okp := fun _ => True) ?hr ?hp (fun _ hk => hk) trivial (Below.refl _ _) (Nat.le_refl _) (by simp) ?_; (case hd => rfl); (case hg => rfl); (case hr => first | (go_simp; done) | (go_simp; rfl)); (case hp => exact (Reps.one (show Kd.M (Kd.int .u8) _ _ _ ((a0_0) % 256) [.int .u8 ((a0_0) % 256)] from rfl) (Reps.one (show Kd.M (Kd.int .u8) _ _ _ ((a0_1) % 256) [.int .u8 ((a0_1) % 256)] from rfl) (Reps.one (show Kd.M (Kd.int .u8) _ _ _ ((a0_2) % 256) [.int .u8 ((a0_2) % 256)] from rfl) (Reps.none _ _))))); intro v103 w5 ho6 hb hg_ hnew_; clear hg_ hnew_; (first | rw [← Ny102.out] at ho6 | (simp only [Int.reduceToNat] at ho6; rw [← Ny102.out] at ho6)); have n0_ := am_ (Kd.V_elder' (by (with_reducible repeat (first | apply Kd.V_alloc | apply Kd.V_drewN | apply Kd.V_drew)); exact HO0_3.out) (Kd.R_base ho6) hb); have n1_ := am_ (Kd.V_elder' (by (with_reducible repeat (first | apply Kd.V_alloc | apply Kd.V_drewN | apply Kd.V_drew)); exact HO0_4.out) (Kd.R_base ho6) hb); have n2_ := am_ (Kd.V_elder' (by (with_reducible repeat (first | apply Kd.V_alloc | apply Kd.V_drewN | apply Kd.V_drew)); exact HO0_5.out) (Kd.R_base ho6) hb); have n3_ := am_ (Kd.R_lower (Kd.R_newM (M := fun k_ => (w.heap.size ≤ k_)) ho6 (below_size qz5_) (fun k_ h_ => h_)) (below_size qz5_)); have n4_ := am_ (blk_below (g := gb101) (o := .cells #[.int .i64 a0_0, .int .i64 a0_1, .int .i64 a0_2, .slice A0_3 l0_3.length c0_3, .slice A0_4 l0_4.length c0_4, .slice A0_5 l0_5.length c0_5] 46 (0, 0)) qz9_ hb); have n5_ := am_ (below_step qz5_ hb); clear HO0_3; clear HO0_4; clear HO0_5; clear BK101; clear HB; have HO0_3 := n0_; have HO0_4 := n1_; have HO0_5 := n2_; have HO104 := n3_; have BK101 := n4_; have HB := n5_; clear n0_ n1_ n2_ n3_ n4_ n5_; clear hb ho6; have hcv7 := own_string (P := Try.prog) Try.underlying22 Try.underlying5 Try.underlying9 (Kd.own_of_R HO104.out); have hcz8_0 : w5.cell? ⟨gb101, 0, none⟩ = some (.int .i64 a0_0) := (blk_cell BK101.out 0).trans rfl; have hcz8_1 : w5.cell? ⟨gb101, 1, none⟩ = some (.int .i64 a0_1) := (blk_cell BK101.out 1).trans rfl; have hcz8_2 : w5.cell? ⟨gb101, 2, none⟩ = some (.int .i64 a0_2) := (blk_cell BK101.out 2).trans rfl; have hcz8_3 : w5.cell? ⟨gb101, 3, none⟩ = some (.slice A0_3 l0_3.length c0_3) := (blk_cell BK101.out 3).trans rfl; have hcz8_4 : w5.cell? ⟨gb101, 4, none⟩ = some (.slice A0_4 l0_4.length c0_4) := (blk_cell BK101.out 4).trans rfl; have hcz8_5 : w5.cell? ⟨gb101, 5, none⟩ = some (.slice A0_5 l0_5.length c0_5) := (blk_cell BK101.out 5).trans rfl; have hfz8_0 := blk_frozen BK101.out 0; have hfz8_1 := blk_frozen BK101.out 1; have hfz8_2 := blk_frozen BK101.out 2; have hfz8_3 := blk_frozen BK101.out 3; have hfz8_4 := blk_frozen BK101.out 4; have hfz8_5 := blk_frozen BK101.out 5) | ((with_reducible refine gate_dst (N := 26) rfl ?_); refine Kd.N_lit (Kd.slice 126 k126) _ 44 ?hg (N' := 26) ?hd (xs := ([l0_3, l0_4, l0_5] : List (List (S126)))) (inner := [.slice A0_3 l0_3.length c0_3, .slice A0_4 l0_4.length c0_4, .slice A0_5 l0_5.length c0_5]) (ok := (fun k_ => ((P0_3_ k_ ∨ P0_4_ k_ ∨ P0_5_ k_) ∨ w.heap.size ≤ k_) ∧ some k_ ≠ (v103 : Value).ownBlock ∧ k_ ≠ gb101)) (okp := (fun k_ => ((P0_3_ k_ ∨ P0_4_ k_ ∨ P0_5_ k_) ∨ w.heap.size ≤ k_) ∧ some k_ ≠ (v103 : Value).ownBlock ∧ k_ ≠ gb101)) ?hr ?hp (fun _ hk => hk) ((show ∀ k_, w5.heap.size ≤ k_ → (fun k_ => ((P0_3_ k_ ∨ P0_4_ k_ ∨ P0_5_ k_) ∨ w.heap.size ≤ k_) ∧ some k_ ≠ (v103 : Value).ownBlock ∧ k_ ≠ gb101) k_ from fun k_ hk => ⟨(.inr (Nat.le_trans (below_size qz5_) hk)), Kd.fresh' (Kd.R_lt (by (with_reducible repeat (first | apply Kd.R_alloc | apply Kd.R_drewN | apply Kd.R_drew)); exact HO104.out)) k_ hk, Kd.freshB (g := gb101) (o := .cells #[.int .i64 a0_0, .int .i64 a0_1, .int .i64 a0_2, .slice A0_3 l0_3.length c0_3, .slice A0_4 l0_4.length c0_4, .slice A0_5 l0_5.length c0_5] 46 (0, 0)) qz9_ k_ hk⟩) _ (Nat.le_refl _)) (Below.refl _ _) (Nat.le_refl _) (by simp) ?_; (case hd => rfl); (case hg => rfl); (case hr => first | (go_simp; done) | (go_simp; rfl)); (case hp => exact (Reps.one (show Kd.FK (Kd.slice 126 k126) _ _ l0_3 [.slice A0_3 l0_3.length c0_3] from (Kd.FK_slice_mk (Kd.V_reads' (Kd.V_mono (ok' := (fun k_ => ((P0_3_ k_ ∨ P0_4_ k_ ∨ P0_5_ k_) ∨ w.heap.size ≤ k_) ∧ some k_ ≠ (v103 : Value).ownBlock ∧ k_ ≠ gb101)) (HO0_3.out) (fun k_ hk => ⟨hk.1.1, ⟨hk.2, hk.1.2⟩⟩))).2.1 (Kd.V_F (Kd.V_mono (ok' := (fun k_ => ((P0_3_ k_ ∨ P0_4_ k_ ∨ P0_5_ k_) ∨ w.heap.size ≤ k_) ∧ some k_ ≠ (v103 : Value).ownBlock ∧ k_ ≠ gb101)) (HO0_3.out) (fun k_ hk => ⟨hk.1.1, ⟨hk.2, hk.1.2⟩⟩))))) (Reps.one (show Kd.FK (Kd.slice 126 k126) _ _ l0_4 [.slice A0_4 l0_4.length c0_4] from (Kd.FK_slice_mk (Kd.V_reads' (Kd.V_mono (ok' := (fun k_ => ((P0_3_ k_ ∨ P0_4_ k_ ∨ P0_5_ k_) ∨ w.heap.size ≤ k_) ∧ some k_ ≠ (v103 : Value).ownBlock ∧ k_ ≠ gb101)) (HO0_4.out) (fun k_ hk => ⟨hk.1.1, ⟨hk.2, hk.1.2⟩⟩))).2.1 (Kd.V_F (Kd.V_mono (ok' := (fun k_ => ((P0_3_ k_ ∨ P0_4_ k_ ∨ P0_5_ k_) ∨ w.heap.size ≤ k_) ∧ some k_ ≠ (v103 : Value).ownBlock ∧ k_ ≠ gb101)) (HO0_4.out) (fun k_ hk => ⟨hk.1.1, ⟨hk.2, hk.1.2⟩⟩))))) (Reps.one (show Kd.FK (Kd.slice 126 k126) _ _ l0_5 [.slice A0_5 l0_5.length c0_5] from (Kd.FK_slice_mk (Kd.V_reads' (Kd.V_mono (ok' := (fun k_ => ((P0_3_ k_ ∨ P0_4_ k_ ∨ P0_5_ k_) ∨ w.heap.size ≤ k_) ∧ some k_ ≠ (v103 : Value).ownBlock ∧ k_ ≠ gb101)) (HO0_5.out) (fun k_ hk => ⟨hk.1.1, ⟨hk.2, hk.1.2⟩⟩))).2.1 (Kd.V_F (Kd.V_mono (ok' := (fun k_ => ((P0_3_ k_ ∨ P0_4_ k_ ∨ P0_5_ k_) ∨ w.heap.size ≤ k_) ∧ some k_ ≠ (v103 : Value).ownBlock ∧ k_ ≠ gb101)) (HO0_5.out) (fun k_ hk => ⟨hk.1.1, ⟨hk.2, hk.1.2⟩⟩))))) (Reps.none _ _))))); intro v106 w9 ho10 hb hg_ hnew_; clear hg_ hnew_; (first | rw [← Ny105.out] at ho10 | (simp only [Int.reduceToNat] at ho10; rw [← Ny105.out] at ho10)); have n0_ := am_ (Kd.V_elder' (by (with_reducible repeat (first | apply Kd.V_alloc | apply Kd.V_drewN | apply Kd.V_drew)); exact HO0_3.out) (Kd.N_base ho10) hb); have n1_ := am_ (Kd.V_elder' (by (with_reducible repeat (first | apply Kd.V_alloc | apply Kd.V_drewN | apply Kd.V_drew)); exact HO0_4.out) (Kd.N_base ho10) hb); have n2_ := am_ (Kd.V_elder' (by (with_reducible repeat (first | apply Kd.V_alloc | apply Kd.V_drewN | apply Kd.V_drew)); exact HO0_5.out) (Kd.N_base ho10) hb); have n3_ := am_ (Kd.R_below (by (with_reducible repeat (first | apply Kd.R_alloc | apply Kd.R_drewN | apply Kd.R_drew)); exact HO104.out) hb); have n4_ := am_ (Kd.N_lower ho10 (below_size qz5_)); have n5_ := am_ (blk_below (g := gb101) (o := .cells #[.int .i64 a0_0, .int .i64 a0_1, .int .i64 a0_2, .slice A0_3 l0_3.length c0_3, .slice A0_4 l0_4.length c0_4, .slice A0_5 l0_5.length c0_5] 46 (0, 0)) qz9_ hb); have n6_ := am_ (below_step qz5_ hb); clear HO0_3; clear HO0_4; clear HO0_5; clear HO104; clear BK101; clear HB; have HO0_3 := n0_; have HO0_4 := n1_; have HO0_5 := n2_; have HO104 := n3_; have HO107 := n4_; have BK101 := n5_; have HB := n6_; clear n0_ n1_ n2_ n3_ n4_ n5_ n6_; clear hb ho10))
  go_loopg [3, 5] k (fun kq v3 v5 w' => ∃ (x3_1 : ByteArray) (x5_1 : Int), v3 = .string x3_1 ∧ v5 = .int .i64 x5_1 ∧ Aside0 (spec_l10Digest.l0 kq x3_1 y105 x5_1 = some r) ∧ Aside0 (kq ≤ k) ∧ Aside0 (Kd.N (Kd.slice 126 k126) 44 w' w.heap.size (fun k_ => ((P0_3_ k_ ∨ P0_4_ k_ ∨ P0_5_ k_) ∨ w.heap.size ≤ k_) ∧ k_ ≠ gb101) v106 y105) ∧ Aside0 (Kd.V k126 126 w' w.heap.size (fun k_ => ((P0_3_ k_ ∨ P0_4_ k_ ∨ P0_5_ k_) ∨ w.heap.size ≤ k_) ∧ some k_ ≠ (v106 : Value).ownBlock ∧ k_ ≠ gb101) (.slice A0_3 l0_3.length c0_3) l0_3) ∧ Aside0 (Kd.V k126 126 w' w.heap.size (fun k_ => ((P0_3_ k_ ∨ P0_4_ k_ ∨ P0_5_ k_) ∨ w.heap.size ≤ k_) ∧ some k_ ≠ (v106 : Value).ownBlock ∧ k_ ≠ gb101) (.slice A0_4 l0_4.length c0_4) l0_4) ∧ Aside0 (Kd.V k126 126 w' w.heap.size (fun k_ => ((P0_3_ k_ ∨ P0_4_ k_ ∨ P0_5_ k_) ∨ w.heap.size ≤ k_) ∧ some k_ ≠ (v106 : Value).ownBlock ∧ k_ ≠ gb101) (.slice A0_5 l0_5.length c0_5) l0_5) ∧ Aside0 (w'.heap[gb101]? = some (.cells #[.int .i64 a0_0, .int .i64 a0_1, .int .i64 a0_2, (.slice A0_3 l0_3.length c0_3), (.slice A0_4 l0_4.length c0_4), (.slice A0_5 l0_5.length c0_5)] 46 (0, 0))) ∧ Aside0 (Below w.heap.size w w'))
  case atStart => exact ⟨((⟨#[115, 121, 115, 116, 101, 109]⟩ : ByteArray) ++ (strOfNums y102)), (0), qz0_, qz0_, H', ⟨Nat.le_refl _⟩, ⟨by (with_reducible repeat (first | apply Kd.N_alloc | apply Kd.N_drewN | apply Kd.N_drew)); exact Kd.N_mono HO107.out (fun _ hk => ⟨hk.1, hk.2.2⟩)⟩, ⟨by (with_reducible repeat (first | apply Kd.V_alloc | apply Kd.V_drewN | apply Kd.V_drew)); exact Kd.V_mono HO0_3.out (fun _ hk => ⟨hk.1.1.1, ⟨hk.2, hk.1.1.2⟩⟩)⟩, ⟨by (with_reducible repeat (first | apply Kd.V_alloc | apply Kd.V_drewN | apply Kd.V_drew)); exact Kd.V_mono HO0_4.out (fun _ hk => ⟨hk.1.1.1, ⟨hk.2, hk.1.1.2⟩⟩)⟩, ⟨by (with_reducible repeat (first | apply Kd.V_alloc | apply Kd.V_drewN | apply Kd.V_drew)); exact Kd.V_mono HO0_5.out (fun _ hk => ⟨hk.1.1.1, ⟨hk.2, hk.1.1.2⟩⟩)⟩, ⟨qz9_⟩, ⟨qz5_⟩⟩
  case round =>
   clear H'
   try clear c2
   try clear c2b0
   try clear c2b1
   try clear c2b2
   try clear p2
   try clear c5
   try clear hcv7
   try clear hcz4_0
   try clear hcz4_1
   try clear hcz4_2
   try clear hcz4_3
   try clear hcz4_4
   try clear hcz4_5
   try clear hcz8_0
   try clear hcz8_1
   try clear hcz8_2
   try clear hcz8_3
   try clear hcz8_4
   try clear hcz8_5
   try clear hfz4_0
   try clear hfz4_1
   try clear hfz4_2
   try clear hfz4_3
   try clear hfz4_4
   try clear hfz4_5
   try clear hfz8_0
   try clear hfz8_1
   try clear hfz8_2
   try clear hfz8_3
   try clear hfz8_4
   try clear hfz8_5
   obtain ⟨x3_1, x5_1, rfl, rfl, HA, HK1, HO_4, HO_102003, HO_102004, HO_102005, BK101, HB⟩ := hrel
   cases gk with
   | zero => exact absurd HA.out (by simp [spec_l10Digest.l0])
   | succ k1 =>
    have H := HA.out
    clear HA
    simp only [spec_l10Digest.l0] at H
    by_cases c11 : x5_1 < 3
    ·
     rw [if_pos c11] at H
     have c11b0 : decide (x5_1 < 3) = true := decide_eq_true c11
     clear c11
     by_cases c12 : 0 ≤ x5_1
     ·
      rw [if_pos c12] at H
      have c12b0 : decide (0 ≤ x5_1) = true := decide_eq_true c12
      clear c12
      by_cases c13 : x5_1 < (y105.length : Int)
      ·
       rw [if_pos c13] at H
       have c13b0 : decide (x5_1 < (y105.length : Int)) = true := decide_eq_true c13
       clear c13
       replace H := Option.bind_eq_some_iff.mp H
       obtain ⟨t110, A140, H⟩ := H
       replace H : (if x3_1.size + (strOfNums t110).size ≤ 9223372036854775807 then (spec_l10Digest.l1 k1 (x3_1 ++ (strOfNums t110)) y105 x5_1 0) else (none)) = some r := H
       have A14 := am_ A140
       clear A140
       by_cases c15 : x3_1.size + (strOfNums t110).size ≤ 9223372036854775807
       ·
        rw [if_pos c15] at H
        have c15b0 := eq_true c15
        have c15b1 : decide (x3_1.size + (strOfNums t110).size ≤ 9223372036854775807) = true := decide_eq_true c15
        try have c15b2 : (9223372036854775807 < x3_1.size + (strOfNums t110).size) = False := eq_false (Nat.not_lt.2 c15)
        have H' := am_ H
        clear H
        obtain ⟨Ao16, co16, eo16⟩ := Kd.N_slice HO_4.out
        subst eo16
        have p109 : 0 ≤ (x5_1 : Int) := of_decide_eq_true qz6_
        have q109 : x5_1 < (y105.length : Int) := of_decide_eq_true qz6_
        obtain ⟨ad109, A109_0, c109_0, e109, hx109_0, hl109_0, hi109_0⟩ := at_L5 (Kd.N_reads' HO_4.out).2.2 x5_1 p109 q109
        cases e109
        obtain ⟨ce109, hce109, hMe109, hcc109⟩ := Kd.N_get HO_4.out [] x5_1 p109 (by first | exact q109 | exact of_decide_eq_true qz6_ | (have e_ := (Kd.N_reads' HO_4.out).1; omega))
        obtain ⟨ua109_0, uc109_0, rfl, ul109_0, ge109_0⟩ := Kd.FK_slice_open hMe109
        have hv109_0 := hcc109 0 _ rfl
        rw [Nat.add_zero, show ((Kd.slice 126 k126)).sz = 1 from rfl, Nat.mul_one] at hv109_0
        replace hv109_0 := Option.some.inj (hv109_0.symm.trans hx109_0)
        injection hv109_0 with hva_ hvn_ hvc_
        rw [hva_] at ge109_0
        rw [hvc_] at ul109_0
        have HL109_0 := am_ (show Kd.V k126 126 _ w.heap.size _ _ (rd_L5 y105 x5_1) from Kd.V_mk ul109_0 ge109_0)
        clear hva_ hvn_ hvc_ ge109_0 ul109_0
        clear hcc109 hce109
        have HR109_0 := am_ hi109_0
        have HC109_0 := am_ hl109_0
        clear hi109_0 hl109_0
        replace p109 := eq_true p109
        replace q109 := eq_true q109
        go_wp2_with (first | ((with_reducible refine gate_callee (f := 91) rfl ?_); refine goesL_ (some 37) rfl rfl Try.func91 (by kernel_rfl) rfl #[.int .i64 ((rd_L5 y105 x5_1).length : Int), .int .i64 4] rfl qz3_ ?_; (with_reducible refine (spec_l02Number.calls k1 ((rd_L5 y105 x5_1).length : Int) 4 t110 _ A14.out).mono ?_); rintro e w17 ⟨v111, rfl, ho0, hb⟩; refine ⟨_, rfl, ?_⟩; have n0_ := am_ (Kd.N_elder' qz15_ (Kd.R_base ho0) hb); have n1_ := am_ (Kd.V_elder' qz16_ (Kd.R_base ho0) hb); have n2_ := am_ (Kd.V_elder' qz17_ (Kd.R_base ho0) hb); have n3_ := am_ (Kd.V_elder' qz18_ (Kd.R_base ho0) hb); have n4_ := am_ (Kd.V_elder' (by (with_reducible repeat (first | apply Kd.V_alloc | apply Kd.V_drewN | apply Kd.V_drew)); exact HL109_0.out) (Kd.R_base ho0) hb); have n5_ := am_ (Kd.R_lower (Kd.R_newM (M := fun k_ => (w.heap.size ≤ k_)) ho0 (below_size qz5_) (fun k_ h_ => h_)) (below_size qz5_)); have n6_ := am_ (blk_below (g := gb101) (o := .cells #[.int .i64 a0_0, .int .i64 a0_1, .int .i64 a0_2, .slice A0_3 l0_3.length c0_3, .slice A0_4 l0_4.length c0_4, .slice A0_5 l0_5.length c0_5] 46 (0, 0)) qz9_ hb); have n7_ := am_ (Kd.C_below (by repeat (first | (with_reducible exact HR109_0.out) | (with_reducible refine Kd.C_alloc ?_ _) | (with_reducible refine Kd.C_drewN ?_ _) | (with_reducible refine Kd.C_drew ?_) | exact HR109_0.out)) hb); have n8_ := am_ (below_step qz5_ hb); clear HO_4; clear HO_102003; clear HO_102004; clear HO_102005; clear HL109_0; clear BK101; clear HR109_0; clear HB; have HO_4 := n0_; have HO_102003 := n1_; have HO_102004 := n2_; have HO_102005 := n3_; have HL109_0 := n4_; have HO112 := n5_; have BK101 := n6_; have HR109_0 := n7_; have HB := n8_; clear n0_ n1_ n2_ n3_ n4_ n5_ n6_ n7_ n8_; (try clear hb); (try clear hb2); (try clear hk); (try clear hi); (try clear ho0); have hcv18 := own_string (P := Try.prog) Try.underlying22 Try.underlying5 Try.underlying9 (Kd.own_of_R HO112.out)))
        go_loopg [3, 6] k1 (fun kq v3 v6 w' => ∃ (x3_2 : ByteArray) (x6_2 : Int), v3 = .string x3_2 ∧ v6 = .int .i64 x6_2 ∧ Aside0 (spec_l10Digest.l1 kq x3_2 y105 x5_1 x6_2 = some r) ∧ Aside0 (kq ≤ k1) ∧ Aside0 (Kd.N (Kd.slice 126 k126) 44 w' w.heap.size (fun k_ => ((P0_3_ k_ ∨ P0_4_ k_ ∨ P0_5_ k_) ∨ w.heap.size ≤ k_) ∧ k_ ≠ gb101) (.slice (some ad109) y105.length co16) y105) ∧ Aside0 (Kd.V k126 126 w' w.heap.size (fun k_ => ((P0_3_ k_ ∨ P0_4_ k_ ∨ P0_5_ k_) ∨ w.heap.size ≤ k_) ∧ some k_ ≠ ((.slice (some ad109) y105.length co16) : Value).ownBlock ∧ k_ ≠ gb101) (.slice A0_3 l0_3.length c0_3) l0_3) ∧ Aside0 (Kd.V k126 126 w' w.heap.size (fun k_ => ((P0_3_ k_ ∨ P0_4_ k_ ∨ P0_5_ k_) ∨ w.heap.size ≤ k_) ∧ some k_ ≠ ((.slice (some ad109) y105.length co16) : Value).ownBlock ∧ k_ ≠ gb101) (.slice A0_4 l0_4.length c0_4) l0_4) ∧ Aside0 (Kd.V k126 126 w' w.heap.size (fun k_ => ((P0_3_ k_ ∨ P0_4_ k_ ∨ P0_5_ k_) ∨ w.heap.size ≤ k_) ∧ some k_ ≠ ((.slice (some ad109) y105.length co16) : Value).ownBlock ∧ k_ ≠ gb101) (.slice A0_5 l0_5.length c0_5) l0_5) ∧ Aside0 (w'.heap[gb101]? = some (.cells #[.int .i64 a0_0, .int .i64 a0_1, .int .i64 a0_2, (.slice A0_3 l0_3.length c0_3), (.slice A0_4 l0_4.length c0_4), (.slice A0_5 l0_5.length c0_5)] 46 (0, 0))) ∧ Aside0 (Below w.heap.size w w'))
        case atStart => exact ⟨(x3_1 ++ (strOfNums t110)), (0), qz0_, qz0_, H', ⟨Nat.le_refl _⟩, ⟨by (with_reducible repeat (first | apply Kd.N_alloc | apply Kd.N_drewN | apply Kd.N_drew)); exact Kd.N_mono HO_4.out (fun _ hk => ⟨hk.1.1, hk.1.2⟩)⟩, ⟨by (with_reducible repeat (first | apply Kd.V_alloc | apply Kd.V_drewN | apply Kd.V_drew)); exact Kd.V_mono HO_102003.out (fun _ hk => ⟨hk.1.1, ⟨hk.1.2.1, hk.1.2.2⟩⟩)⟩, ⟨by (with_reducible repeat (first | apply Kd.V_alloc | apply Kd.V_drewN | apply Kd.V_drew)); exact Kd.V_mono HO_102004.out (fun _ hk => ⟨hk.1.1, ⟨hk.1.2.1, hk.1.2.2⟩⟩)⟩, ⟨by (with_reducible repeat (first | apply Kd.V_alloc | apply Kd.V_drewN | apply Kd.V_drew)); exact Kd.V_mono HO_102005.out (fun _ hk => ⟨hk.1.1, ⟨hk.1.2.1, hk.1.2.2⟩⟩)⟩, ⟨qz9_⟩, ⟨qz5_⟩⟩
        case round =>
         clear H'
         try clear c1
         try clear p1
         try clear q1
         try clear hx1
         try clear hcv1
         try clear c2
         try clear c2b0
         try clear c2b1
         try clear c2b2
         try clear p2
         try clear c5
         try clear hcv7
         try clear c9
         try clear c10
         try clear p10
         try clear q10
         try clear hx10
         try clear c11
         try clear c11b0
         try clear c12
         try clear c12b0
         try clear c13
         try clear c13b0
         try clear c15
         try clear c15b0
         try clear c15b1
         try clear c15b2
         try clear hcv18
         try clear hcz4_0
         try clear hcz4_1
         try clear hcz4_2
         try clear hcz4_3
         try clear hcz4_4
         try clear hcz4_5
         try clear hcz8_0
         try clear hcz8_1
         try clear hcz8_2
         try clear hcz8_3
         try clear hcz8_4
         try clear hcz8_5
         try clear hfz4_0
         try clear hfz4_1
         try clear hfz4_2
         try clear hfz4_3
         try clear hfz4_4
         try clear hfz4_5
         try clear hfz8_0
         try clear hfz8_1
         try clear hfz8_2
         try clear hfz8_3
         try clear hfz8_4
         try clear hfz8_5
         try clear hx109_0
         try clear p109
         try clear p2
         try clear q109
         obtain ⟨x3_2, x6_2, rfl, rfl, HA, HK2, HO_4, HO_102003, HO_102004, HO_102005, BK101, HB⟩ := hrel
         cases gk with
         | zero => exact absurd HA.out (by simp [spec_l10Digest.l1])
         | succ k2 =>
          have H := HA.out
          clear HA
          simp only [spec_l10Digest.l1] at H
          by_cases c19 : 0 ≤ x5_1
          ·
           rw [if_pos c19] at H
           have c19b0 : decide (0 ≤ x5_1) = true := decide_eq_true c19
           clear c19
           by_cases c20 : x5_1 < (y105.length : Int)
           ·
            rw [if_pos c20] at H
            have c20b0 : decide (x5_1 < (y105.length : Int)) = true := decide_eq_true c20
            clear c20
            by_cases c21 : x6_2 < ((rd_L5 y105 x5_1).length : Int)
            ·
             rw [if_pos c21] at H
             have c21b0 : decide (x6_2 < ((rd_L5 y105 x5_1).length : Int)) = true := decide_eq_true c21
             clear c21
             by_cases c22 : 0 ≤ x6_2
             ·
              rw [if_pos c22] at H
              have c22b0 : decide (0 ≤ x6_2) = true := decide_eq_true c22
              clear c22
              obtain ⟨y117, hy117⟩ : ∃ y_ : List Int, y_ = (([((rd_T126 (rd_L5 y105 x5_1) x6_2).f0) % 256, ((rd_T126 (rd_L5 y105 x5_1) x6_2).f1) % 256] : List Int)) := ⟨_, rfl⟩
              replace H : ((spec_l02Number.f k2 ((rd_T126 (rd_L5 y105 x5_1) x6_2).f2) 4).bind fun t120 => (if (strOfNums y117).size + (strOfNums t120).size ≤ 9223372036854775807 then (if x3_2.size + ((strOfNums y117) ++ (strOfNums t120)).size ≤ 9223372036854775807 then (spec_l10Digest.l1 k2 (x3_2 ++ ((strOfNums y117) ++ (strOfNums t120))) y105 x5_1 (wrap64 (x6_2 + 1))) else (none)) else (none))) = some r := by first | (rw [hy117]; with_reducible exact H) | (have H2_ := (Option.bind_some _ _).symm.trans H; rw [hy117]; with_reducible exact H2_) | (have H2_ := (Option.bind_some _ _).symm.trans H; with_reducible exact H2_) | with_reducible exact H | (rw [hy117]; exact H) | exact H
              have Ny117 := am_ hy117
              clear hy117
              replace H := Option.bind_eq_some_iff.mp H
              obtain ⟨t120, A230, H⟩ := H
              replace H : (if (strOfNums y117).size + (strOfNums t120).size ≤ 9223372036854775807 then (if x3_2.size + ((strOfNums y117) ++ (strOfNums t120)).size ≤ 9223372036854775807 then (spec_l10Digest.l1 k2 (x3_2 ++ ((strOfNums y117) ++ (strOfNums t120))) y105 x5_1 (wrap64 (x6_2 + 1))) else (none)) else (none)) = some r := H
              have A23 := am_ A230
              clear A230
              by_cases c24 : (strOfNums y117).size + (strOfNums t120).size ≤ 9223372036854775807
              ·
               rw [if_pos c24] at H
               have c24b0 := eq_true c24
               have c24b1 : decide ((strOfNums y117).size + (strOfNums t120).size ≤ 9223372036854775807) = true := decide_eq_true c24
               try have c24b2 : (9223372036854775807 < (strOfNums y117).size + (strOfNums t120).size) = False := eq_false (Nat.not_lt.2 c24)
               by_cases c25 : x3_2.size + ((strOfNums y117) ++ (strOfNums t120)).size ≤ 9223372036854775807
               ·
                rw [if_pos c25] at H
                have c25b0 := eq_true c25
                have c25b1 : decide (x3_2.size + ((strOfNums y117) ++ (strOfNums t120)).size ≤ 9223372036854775807) = true := decide_eq_true c25
                try have c25b2 : (9223372036854775807 < x3_2.size + ((strOfNums y117) ++ (strOfNums t120)).size) = False := eq_false (Nat.not_lt.2 c25)
                try have c25b3 : (9223372036854775807 < x3_2.size + ((strOfNums y117).size + (strOfNums t120).size)) = False := eq_false (Nat.not_lt.2 (by rw [← ByteArray.size_append]; exact c25))
                have H' := am_ H
                clear H
                have p113 : 0 ≤ (x5_1 : Int) := of_decide_eq_true qz6_
                have q113 : x5_1 < (y105.length : Int) := of_decide_eq_true qz6_
                obtain ⟨ad113, A113_0, c113_0, e113, hx113_0, hl113_0, hi113_0⟩ := at_L5 (Kd.N_reads' HO_4.out).2.2 x5_1 p113 q113
                obtain rfl : ad109 = ad113 := (by injection e113)
                obtain ⟨ce113, hce113, hMe113, hcc113⟩ := Kd.N_get HO_4.out [] x5_1 p113 (by first | exact q113 | exact of_decide_eq_true qz6_ | (have e_ := (Kd.N_reads' HO_4.out).1; omega))
                obtain ⟨ua113_0, uc113_0, rfl, ul113_0, ge113_0⟩ := Kd.FK_slice_open hMe113
                have hv113_0 := hcc113 0 _ rfl
                rw [Nat.add_zero, show ((Kd.slice 126 k126)).sz = 1 from rfl, Nat.mul_one] at hv113_0
                replace hv113_0 := Option.some.inj (hv113_0.symm.trans hx113_0)
                injection hv113_0 with hva_ hvn_ hvc_
                rw [hva_] at ge113_0
                rw [hvc_] at ul113_0
                have HL113_0 := am_ (show Kd.V k126 126 _ w.heap.size _ _ (rd_L5 y105 x5_1) from Kd.V_mk ul113_0 ge113_0)
                clear hva_ hvn_ hvc_ ge113_0 ul113_0
                clear hcc113 hce113
                have HR113_0 := am_ hi113_0
                have HC113_0 := am_ hl113_0
                clear hi113_0 hl113_0
                replace p113 := eq_true p113
                replace q113 := eq_true q113
                have p114 : 0 ≤ (x5_1 : Int) := of_decide_eq_true qz6_
                have q114 : x5_1 < (y105.length : Int) := of_decide_eq_true qz6_
                obtain ⟨ad114, A114_0, c114_0, e114, hx114_0, hl114_0, hi114_0⟩ := at_L5 (Kd.N_reads' HO_4.out).2.2 x5_1 p114 q114
                obtain rfl : ad109 = ad114 := (by injection e114)
                obtain ⟨ce114, hce114, hMe114, hcc114⟩ := Kd.N_get HO_4.out [] x5_1 p114 (by first | exact q114 | exact of_decide_eq_true qz6_ | (have e_ := (Kd.N_reads' HO_4.out).1; omega))
                obtain ⟨ua114_0, uc114_0, rfl, ul114_0, ge114_0⟩ := Kd.FK_slice_open hMe114
                have hv114_0 := hcc114 0 _ rfl
                rw [Nat.add_zero, show ((Kd.slice 126 k126)).sz = 1 from rfl, Nat.mul_one] at hv114_0
                replace hv114_0 := Option.some.inj (hv114_0.symm.trans hx114_0)
                injection hv114_0 with hva_ hvn_ hvc_
                rw [hva_] at ge114_0
                rw [hvc_] at ul114_0
                have HL114_0 := am_ (show Kd.V k126 126 _ w.heap.size _ _ (rd_L5 y105 x5_1) from Kd.V_mk ul114_0 ge114_0)
                clear hva_ hvn_ hvc_ ge114_0 ul114_0
                clear hcc114 hce114
                have HR114_0 := am_ hi114_0
                have HC114_0 := am_ hl114_0
                clear hi114_0 hl114_0
                replace p114 := eq_true p114
                replace q114 := eq_true q114
                have ea_ := Option.some.inj (hx113_0.symm.trans hx114_0)
                injection ea_ with ea_ en_ ec_
                subst ea_
                subst ec_
                clear en_
                have p115 : 0 ≤ (x6_2 : Int) := of_decide_eq_true qz6_
                have q115 : x6_2 < ((rd_L5 y105 x5_1).length : Int) := of_decide_eq_true qz6_
                obtain ⟨ad115, e115, hx115_0, hx115_1, hx115_2⟩ := at_T126 (by repeat (first | (with_reducible exact HR114_0.out) | (with_reducible refine Kd.C_alloc ?_ _) | (with_reducible refine Kd.C_drewN ?_ _) | (with_reducible refine Kd.C_drew ?_) | exact HR114_0.out)) x6_2 p115 q115
                cases e115
                replace p115 := eq_true p115
                replace q115 := eq_true q115
                try go_wp2_with (first | ((with_reducible refine gate_dst (N := 7) rfl ?_); refine box_event ?hg (N := 7) ?hd (cs := #[.int .i64 0, .int .i64 0, .int .i64 0]) (t := 126) ?hr ?_; (case hd => rfl); (case hg => rfl); (case hr => first | (go_simp; done) | (go_simp; rfl)); intro gb116 hg w26 hbox hb; have n0_ := am_ (Kd.N_below (Kd.N_elderB qz15_ gb116 (Nat.le_of_eq hg.symm)) hb); have n1_ := am_ (Kd.V_below (Kd.V_elderB qz16_ gb116 (Nat.le_of_eq hg.symm)) hb); have n2_ := am_ (Kd.V_below (Kd.V_elderB qz17_ gb116 (Nat.le_of_eq hg.symm)) hb); have n3_ := am_ (Kd.V_below (Kd.V_elderB qz18_ gb116 (Nat.le_of_eq hg.symm)) hb); have n4_ := am_ (Kd.V_below (Kd.V_elderB qz19_ gb116 (Nat.le_of_eq hg.symm)) hb); have n5_ := am_ (Kd.V_below (Kd.V_elderB qz20_ gb116 (Nat.le_of_eq hg.symm)) hb); have n6_ := am_ (blk_below (g := gb101) (o := .cells #[.int .i64 a0_0, .int .i64 a0_1, .int .i64 a0_2, .slice A0_3 l0_3.length c0_3, .slice A0_4 l0_4.length c0_4, .slice A0_5 l0_5.length c0_5] 46 (0, 0)) qz9_ hb); have n7_ := am_ (Kd.C_below (by repeat (first | (with_reducible exact HR113_0.out) | (with_reducible refine Kd.C_alloc ?_ _) | (with_reducible refine Kd.C_drewN ?_ _) | (with_reducible refine Kd.C_drew ?_) | exact HR113_0.out)) hb); have n8_ := am_ (Kd.C_below (by repeat (first | (with_reducible exact HR114_0.out) | (with_reducible refine Kd.C_alloc ?_ _) | (with_reducible refine Kd.C_drewN ?_ _) | (with_reducible refine Kd.C_drew ?_) | exact HR114_0.out)) hb); have n9_ := am_ (below_step qz5_ hb); have n10_ := am_ (hbox); have n11_ := am_ ((by rw [hg]; exact (below_size qz5_) : w.heap.size ≤ gb116)); have n12_ := am_ ((by rw [hg]; exact (below_size qz5_) : w.heap.size ≤ gb116)); have n13_ := am_ ((by rw [hg]; exact Nat.ne_of_lt (blk_lt (g := gb101) (o := .cells #[.int .i64 a0_0, .int .i64 a0_1, .int .i64 a0_2, .slice A0_3 l0_3.length c0_3, .slice A0_4 l0_4.length c0_4, .slice A0_5 l0_5.length c0_5] 46 (0, 0)) qz9_) : gb101 ≠ gb116)); have n14_ := am_ ((by rw [hg]; exact Nat.ne_of_gt (blk_lt (g := gb101) (o := .cells #[.int .i64 a0_0, .int .i64 a0_1, .int .i64 a0_2, .slice A0_3 l0_3.length c0_3, .slice A0_4 l0_4.length c0_4, .slice A0_5 l0_5.length c0_5] 46 (0, 0)) qz9_) : gb116 ≠ gb101)); clear HO_4; clear HO_102003; clear HO_102004; clear HO_102005; clear HL113_0; clear HL114_0; clear BK101; clear HR113_0; clear HR114_0; clear HB; have HO_4 := n0_; have HO_102003 := n1_; have HO_102004 := n2_; have HO_102005 := n3_; have HL113_0 := n4_; have HL114_0 := n5_; have BK101 := n6_; have HR113_0 := n7_; have HR114_0 := n8_; have HB := n9_; have BK116 := n10_; have GW116 := n11_; have GE116 := n12_; have NB101_116 := n13_; have NB116_101 := n14_; clear n0_ n1_ n2_ n3_ n4_ n5_ n6_ n7_ n8_ n9_ n10_ n11_ n12_ n13_ n14_; clear hb hbox hg; have hnb27 := NB116_101.out; have hnc27 := NB101_116.out; have hcz28_0 : w26.cell? ⟨gb116, 0, none⟩ = some (.int .i64 0) := (blk_cell BK116.out 0).trans rfl; have hcz28_1 : w26.cell? ⟨gb116, 1, none⟩ = some (.int .i64 0) := (blk_cell BK116.out 1).trans rfl; have hcz28_2 : w26.cell? ⟨gb116, 2, none⟩ = some (.int .i64 0) := (blk_cell BK116.out 2).trans rfl; have hfz28_0 := blk_frozen BK116.out 0; have hfz28_1 := blk_frozen BK116.out 1; have hfz28_2 := blk_frozen BK116.out 2))
                have n0_ : Aside0 (Kd.N (Kd.slice 126 k126) 44 (((w26.setCell ⟨gb116, 0, none⟩ (.int .i64 ((rd_T126 (rd_L5 y105 x5_1) x6_2).f0))).setCell ⟨gb116, 1, none⟩ (.int .i64 ((rd_T126 (rd_L5 y105 x5_1) x6_2).f1))).setCell ⟨gb116, 2, none⟩ (.int .i64 ((rd_T126 (rd_L5 y105 x5_1) x6_2).f2))) w.heap.size (fun k_ => ((P0_3_ k_ ∨ P0_4_ k_ ∨ P0_5_ k_) ∨ w.heap.size ≤ k_) ∧ k_ ≠ gb101 ∧ k_ ≠ gb116) (.slice (some ad109) y105.length co16) y105) := ⟨by (with_reducible repeat (first | apply Kd.N_alloc | apply Kd.N_drewN | apply Kd.N_drew)); exact Kd.N_mono (Kd.N_far (p := ⟨gb116, 2, none⟩) (Kd.N_far (p := ⟨gb116, 1, none⟩) (Kd.N_far (p := ⟨gb116, 0, none⟩) (Kd.N_mono HO_4.out (fun k_ hk => (⟨hk, hk.2⟩ : _ ∧ k_ ≠ gb116))) (fun _ hk => hk.2) (.int .i64 ((rd_T126 (rd_L5 y105 x5_1) x6_2).f0))) (fun _ hk => hk.2) (.int .i64 ((rd_T126 (rd_L5 y105 x5_1) x6_2).f1))) (fun _ hk => hk.2) (.int .i64 ((rd_T126 (rd_L5 y105 x5_1) x6_2).f2))) (fun _ hk => ⟨hk.1.1.1, ⟨hk.1.1.2, hk.1.2⟩⟩)⟩
                have n1_ : Aside0 (Kd.V k126 126 (((w26.setCell ⟨gb116, 0, none⟩ (.int .i64 ((rd_T126 (rd_L5 y105 x5_1) x6_2).f0))).setCell ⟨gb116, 1, none⟩ (.int .i64 ((rd_T126 (rd_L5 y105 x5_1) x6_2).f1))).setCell ⟨gb116, 2, none⟩ (.int .i64 ((rd_T126 (rd_L5 y105 x5_1) x6_2).f2))) w.heap.size (fun k_ => ((P0_3_ k_ ∨ P0_4_ k_ ∨ P0_5_ k_) ∨ w.heap.size ≤ k_) ∧ some k_ ≠ (.slice (some ad109) y105.length co16 : Value).ownBlock ∧ k_ ≠ gb101 ∧ k_ ≠ gb116) (.slice A0_3 l0_3.length c0_3) l0_3) := ⟨by (with_reducible repeat (first | apply Kd.V_alloc | apply Kd.V_drewN | apply Kd.V_drew)); exact Kd.V_mono (Kd.V_far (p := ⟨gb116, 2, none⟩) (Kd.V_far (p := ⟨gb116, 1, none⟩) (Kd.V_far (p := ⟨gb116, 0, none⟩) (Kd.V_mono HO_102003.out (fun k_ hk => (⟨hk, hk.2⟩ : _ ∧ k_ ≠ gb116))) (fun _ hk => hk.2) (.int .i64 ((rd_T126 (rd_L5 y105 x5_1) x6_2).f0))) (fun _ hk => hk.2) (.int .i64 ((rd_T126 (rd_L5 y105 x5_1) x6_2).f1))) (fun _ hk => hk.2) (.int .i64 ((rd_T126 (rd_L5 y105 x5_1) x6_2).f2))) (fun _ hk => ⟨hk.1.1.1, ⟨hk.1.1.2.1, ⟨hk.1.1.2.2, hk.1.2⟩⟩⟩)⟩
                have n2_ : Aside0 (Kd.V k126 126 (((w26.setCell ⟨gb116, 0, none⟩ (.int .i64 ((rd_T126 (rd_L5 y105 x5_1) x6_2).f0))).setCell ⟨gb116, 1, none⟩ (.int .i64 ((rd_T126 (rd_L5 y105 x5_1) x6_2).f1))).setCell ⟨gb116, 2, none⟩ (.int .i64 ((rd_T126 (rd_L5 y105 x5_1) x6_2).f2))) w.heap.size (fun k_ => ((P0_3_ k_ ∨ P0_4_ k_ ∨ P0_5_ k_) ∨ w.heap.size ≤ k_) ∧ some k_ ≠ (.slice (some ad109) y105.length co16 : Value).ownBlock ∧ k_ ≠ gb101 ∧ k_ ≠ gb116) (.slice A0_4 l0_4.length c0_4) l0_4) := ⟨by (with_reducible repeat (first | apply Kd.V_alloc | apply Kd.V_drewN | apply Kd.V_drew)); exact Kd.V_mono (Kd.V_far (p := ⟨gb116, 2, none⟩) (Kd.V_far (p := ⟨gb116, 1, none⟩) (Kd.V_far (p := ⟨gb116, 0, none⟩) (Kd.V_mono HO_102004.out (fun k_ hk => (⟨hk, hk.2⟩ : _ ∧ k_ ≠ gb116))) (fun _ hk => hk.2) (.int .i64 ((rd_T126 (rd_L5 y105 x5_1) x6_2).f0))) (fun _ hk => hk.2) (.int .i64 ((rd_T126 (rd_L5 y105 x5_1) x6_2).f1))) (fun _ hk => hk.2) (.int .i64 ((rd_T126 (rd_L5 y105 x5_1) x6_2).f2))) (fun _ hk => ⟨hk.1.1.1, ⟨hk.1.1.2.1, ⟨hk.1.1.2.2, hk.1.2⟩⟩⟩)⟩
                have n3_ : Aside0 (Kd.V k126 126 (((w26.setCell ⟨gb116, 0, none⟩ (.int .i64 ((rd_T126 (rd_L5 y105 x5_1) x6_2).f0))).setCell ⟨gb116, 1, none⟩ (.int .i64 ((rd_T126 (rd_L5 y105 x5_1) x6_2).f1))).setCell ⟨gb116, 2, none⟩ (.int .i64 ((rd_T126 (rd_L5 y105 x5_1) x6_2).f2))) w.heap.size (fun k_ => ((P0_3_ k_ ∨ P0_4_ k_ ∨ P0_5_ k_) ∨ w.heap.size ≤ k_) ∧ some k_ ≠ (.slice (some ad109) y105.length co16 : Value).ownBlock ∧ k_ ≠ gb101 ∧ k_ ≠ gb116) (.slice A0_5 l0_5.length c0_5) l0_5) := ⟨by (with_reducible repeat (first | apply Kd.V_alloc | apply Kd.V_drewN | apply Kd.V_drew)); exact Kd.V_mono (Kd.V_far (p := ⟨gb116, 2, none⟩) (Kd.V_far (p := ⟨gb116, 1, none⟩) (Kd.V_far (p := ⟨gb116, 0, none⟩) (Kd.V_mono HO_102005.out (fun k_ hk => (⟨hk, hk.2⟩ : _ ∧ k_ ≠ gb116))) (fun _ hk => hk.2) (.int .i64 ((rd_T126 (rd_L5 y105 x5_1) x6_2).f0))) (fun _ hk => hk.2) (.int .i64 ((rd_T126 (rd_L5 y105 x5_1) x6_2).f1))) (fun _ hk => hk.2) (.int .i64 ((rd_T126 (rd_L5 y105 x5_1) x6_2).f2))) (fun _ hk => ⟨hk.1.1.1, ⟨hk.1.1.2.1, ⟨hk.1.1.2.2, hk.1.2⟩⟩⟩)⟩
                have n4_ : Aside0 (Kd.V k126 126 (((w26.setCell ⟨gb116, 0, none⟩ (.int .i64 ((rd_T126 (rd_L5 y105 x5_1) x6_2).f0))).setCell ⟨gb116, 1, none⟩ (.int .i64 ((rd_T126 (rd_L5 y105 x5_1) x6_2).f1))).setCell ⟨gb116, 2, none⟩ (.int .i64 ((rd_T126 (rd_L5 y105 x5_1) x6_2).f2))) w.heap.size (fun k_ => ((P0_3_ k_ ∨ P0_4_ k_ ∨ P0_5_ k_) ∨ w.heap.size ≤ k_) ∧ some k_ ≠ (.slice (some ad109) y105.length co16 : Value).ownBlock ∧ k_ ≠ gb101 ∧ k_ ≠ gb116) (.slice (some ad115) (rd_L5 y105 x5_1).length c113_0) (rd_L5 y105 x5_1)) := ⟨by (with_reducible repeat (first | apply Kd.V_alloc | apply Kd.V_drewN | apply Kd.V_drew)); exact Kd.V_mono (Kd.V_far (p := ⟨gb116, 2, none⟩) (Kd.V_far (p := ⟨gb116, 1, none⟩) (Kd.V_far (p := ⟨gb116, 0, none⟩) (Kd.V_mono HL113_0.out (fun k_ hk => (⟨hk, hk.2⟩ : _ ∧ k_ ≠ gb116))) (fun _ hk => hk.2) (.int .i64 ((rd_T126 (rd_L5 y105 x5_1) x6_2).f0))) (fun _ hk => hk.2) (.int .i64 ((rd_T126 (rd_L5 y105 x5_1) x6_2).f1))) (fun _ hk => hk.2) (.int .i64 ((rd_T126 (rd_L5 y105 x5_1) x6_2).f2))) (fun _ hk => ⟨hk.1.1.1.1, ⟨hk.1.1.2, ⟨hk.1.1.1.2, hk.1.2⟩⟩⟩)⟩
                have n5_ : Aside0 (Kd.V k126 126 (((w26.setCell ⟨gb116, 0, none⟩ (.int .i64 ((rd_T126 (rd_L5 y105 x5_1) x6_2).f0))).setCell ⟨gb116, 1, none⟩ (.int .i64 ((rd_T126 (rd_L5 y105 x5_1) x6_2).f1))).setCell ⟨gb116, 2, none⟩ (.int .i64 ((rd_T126 (rd_L5 y105 x5_1) x6_2).f2))) w.heap.size (fun k_ => ((P0_3_ k_ ∨ P0_4_ k_ ∨ P0_5_ k_) ∨ w.heap.size ≤ k_) ∧ some k_ ≠ (.slice (some ad109) y105.length co16 : Value).ownBlock ∧ k_ ≠ gb101 ∧ k_ ≠ gb116) (.slice (some ad115) (rd_L5 y105 x5_1).length c113_0) (rd_L5 y105 x5_1)) := ⟨by (with_reducible repeat (first | apply Kd.V_alloc | apply Kd.V_drewN | apply Kd.V_drew)); exact Kd.V_mono (Kd.V_far (p := ⟨gb116, 2, none⟩) (Kd.V_far (p := ⟨gb116, 1, none⟩) (Kd.V_far (p := ⟨gb116, 0, none⟩) (Kd.V_mono HL114_0.out (fun k_ hk => (⟨hk, hk.2⟩ : _ ∧ k_ ≠ gb116))) (fun _ hk => hk.2) (.int .i64 ((rd_T126 (rd_L5 y105 x5_1) x6_2).f0))) (fun _ hk => hk.2) (.int .i64 ((rd_T126 (rd_L5 y105 x5_1) x6_2).f1))) (fun _ hk => hk.2) (.int .i64 ((rd_T126 (rd_L5 y105 x5_1) x6_2).f2))) (fun _ hk => ⟨hk.1.1.1.1, ⟨hk.1.1.2, ⟨hk.1.1.1.2, hk.1.2⟩⟩⟩)⟩
                have n6_ : Aside0 ((((w26.setCell ⟨gb116, 0, none⟩ (.int .i64 ((rd_T126 (rd_L5 y105 x5_1) x6_2).f0))).setCell ⟨gb116, 1, none⟩ (.int .i64 ((rd_T126 (rd_L5 y105 x5_1) x6_2).f1))).setCell ⟨gb116, 2, none⟩ (.int .i64 ((rd_T126 (rd_L5 y105 x5_1) x6_2).f2))).heap[gb101]? = some (.cells #[.int .i64 a0_0, .int .i64 a0_1, .int .i64 a0_2, .slice A0_3 l0_3.length c0_3, .slice A0_4 l0_4.length c0_4, .slice A0_5 l0_5.length c0_5] 46 (0, 0))) := ⟨(by (with_reducible repeat (first | refine blk_drewN ?_ _ | refine blk_drew ?_ | refine blk_alloc ?_ _)); refine blk_far ?_ NB101_116.out _; (with_reducible repeat (first | refine blk_drewN ?_ _ | refine blk_drew ?_ | refine blk_alloc ?_ _)); refine blk_far ?_ NB101_116.out _; (with_reducible repeat (first | refine blk_drewN ?_ _ | refine blk_drew ?_ | refine blk_alloc ?_ _)); refine blk_far ?_ NB101_116.out _; (with_reducible repeat (first | refine blk_drewN ?_ _ | refine blk_drew ?_ | refine blk_alloc ?_ _)); exact BK101.out)⟩
                have n7_ : Aside0 ((((w26.setCell ⟨gb116, 0, none⟩ (.int .i64 ((rd_T126 (rd_L5 y105 x5_1) x6_2).f0))).setCell ⟨gb116, 1, none⟩ (.int .i64 ((rd_T126 (rd_L5 y105 x5_1) x6_2).f1))).setCell ⟨gb116, 2, none⟩ (.int .i64 ((rd_T126 (rd_L5 y105 x5_1) x6_2).f2))).heap[gb116]? = some (.cells #[.int .i64 ((rd_T126 (rd_L5 y105 x5_1) x6_2).f0), .int .i64 ((rd_T126 (rd_L5 y105 x5_1) x6_2).f1), .int .i64 ((rd_T126 (rd_L5 y105 x5_1) x6_2).f2)] 126 (0, 0))) := ⟨(by (with_reducible repeat (first | refine blk_drewN ?_ _ | refine blk_drew ?_ | refine blk_alloc ?_ _)); refine blk_put (cs := #[.int .i64 ((rd_T126 (rd_L5 y105 x5_1) x6_2).f0), .int .i64 ((rd_T126 (rd_L5 y105 x5_1) x6_2).f1), .int .i64 0]) ?_ 2 _ rfl; (with_reducible repeat (first | refine blk_drewN ?_ _ | refine blk_drew ?_ | refine blk_alloc ?_ _)); refine blk_put (cs := #[.int .i64 ((rd_T126 (rd_L5 y105 x5_1) x6_2).f0), .int .i64 0, .int .i64 0]) ?_ 1 _ rfl; (with_reducible repeat (first | refine blk_drewN ?_ _ | refine blk_drew ?_ | refine blk_alloc ?_ _)); refine blk_put (cs := #[.int .i64 0, .int .i64 0, .int .i64 0]) ?_ 0 _ rfl; (with_reducible repeat (first | refine blk_drewN ?_ _ | refine blk_drew ?_ | refine blk_alloc ?_ _)); exact BK116.out)⟩
                have n8_ : Aside0 (Below w.heap.size w (((w26.setCell ⟨gb116, 0, none⟩ (.int .i64 ((rd_T126 (rd_L5 y105 x5_1) x6_2).f0))).setCell ⟨gb116, 1, none⟩ (.int .i64 ((rd_T126 (rd_L5 y105 x5_1) x6_2).f1))).setCell ⟨gb116, 2, none⟩ (.int .i64 ((rd_T126 (rd_L5 y105 x5_1) x6_2).f2)))) := ⟨qz21_⟩
                (try clear HO_4)
                (try clear HO_102003)
                (try clear HO_102004)
                (try clear HO_102005)
                (try clear HL113_0)
                (try clear HL114_0)
                (try clear BK101)
                (try clear BK116)
                (try clear HB)
                generalize (((w26.setCell ⟨gb116, 0, none⟩ (.int .i64 ((rd_T126 (rd_L5 y105 x5_1) x6_2).f0))).setCell ⟨gb116, 1, none⟩ (.int .i64 ((rd_T126 (rd_L5 y105 x5_1) x6_2).f1))).setCell ⟨gb116, 2, none⟩ (.int .i64 ((rd_T126 (rd_L5 y105 x5_1) x6_2).f2))) = w29 at n0_ n1_ n2_ n3_ n4_ n5_ n6_ n7_ n8_ ⊢
                have HO_4 := n0_
                have HO_102003 := n1_
                have HO_102004 := n2_
                have HO_102005 := n3_
                have HL113_0 := n4_
                have HL114_0 := n5_
                have BK101 := n6_
                have BK116 := n7_
                have HB := n8_
                clear n0_ n1_ n2_ n3_ n4_ n5_ n6_ n7_ n8_
                have n0_ := am_ (Kd.N_drew HO_4.out)
                have n1_ := am_ (Kd.V_drew HO_102003.out)
                have n2_ := am_ (Kd.V_drew HO_102004.out)
                have n3_ := am_ (Kd.V_drew HO_102005.out)
                have n4_ := am_ (Kd.V_drew HL113_0.out)
                have n5_ := am_ (Kd.V_drew HL114_0.out)
                have n6_ := am_ (blk_drew BK101.out)
                have n7_ := am_ (blk_drew BK116.out)
                have n8_ := am_ (below_drew1 HB.out)
                clear HO_4
                clear HO_102003
                clear HO_102004
                clear HO_102005
                clear HL113_0
                clear HL114_0
                clear BK101
                clear BK116
                clear HB
                have HO_4 := n0_
                have HO_102003 := n1_
                have HO_102004 := n2_
                have HO_102005 := n3_
                have HL113_0 := n4_
                have HL114_0 := n5_
                have BK101 := n6_
                have BK116 := n7_
                have HB := n8_
                clear n0_ n1_ n2_ n3_ n4_ n5_ n6_ n7_ n8_
                refine start_ (n := 16) (S := fun w' => w'.cell? ⟨gb116, 0, none⟩ = some (.int .i64 ((rd_T126 (rd_L5 y105 x5_1) x6_2).f0)) ∧ w'.cell? ⟨gb116, 1, none⟩ = some (.int .i64 ((rd_T126 (rd_L5 y105 x5_1) x6_2).f1)) ∧ w'.cell? ⟨gb116, 2, none⟩ = some (.int .i64 ((rd_T126 (rd_L5 y105 x5_1) x6_2).f2))) (ds := []) #[false, false, false, false, false, false, false, false, false, false, false, false, false, false, false, false] (by kernel_rfl) rfl rfl ⟨(blk_cell BK116.out 0).trans rfl, (blk_cell BK116.out 1).trans rfl, (blk_cell BK116.out 2).trans rfl⟩ (fun hHeld => ?_); refine with_tabW spec_l10Digest.tab11 spec_l10Digest.bits11 (fun HT_ HW_ => ?_)
                generalize w29.drew = w30 at HO_4 HO_102003 HO_102004 HO_102005 HL113_0 HL114_0 BK101 BK116 HB hHeld ⊢
                refine pure_ (i := 0) (N := some 56) (v := ?_) (a' := ?_) #[true, false, false, false, false, false, false, false, false, false, false, false, false, false, false, false] rfl rfl (any_of HT_.out (by kernel_rfl)) (fun _ _ _ h => h) (Or.inl ⟨(by rfl), ?_⟩) ?_ ?_
                rotate_left
                ·
                 intro w'
                 go_simp
                 with_reducible rfl
                rotate_left
                ·
                 exact ap_
                refine pure_ (i := 1) (N := some 57) (v := ?_) (a' := ?_) #[true, true, false, false, false, false, false, false, false, false, false, false, false, false, false, false] rfl rfl (any_of HT_.out (by kernel_rfl)) (fun _ _ _ h => h) (Or.inl ⟨(by rfl), ?_⟩) ?_ ?_
                rotate_left
                ·
                 intro w'
                 go_simp
                 with_reducible rfl
                rotate_left
                ·
                 exact ap_
                refine pure_ (i := 4) (N := some 60) (v := ?_) (a' := ?_) #[true, true, false, false, true, false, false, false, false, false, false, false, false, false, false, false] rfl rfl (any_of HT_.out (by kernel_rfl)) (fun _ _ _ h => h) (Or.inl ⟨(by rfl), ?_⟩) ?_ ?_
                rotate_left
                ·
                 intro w'
                 go_simp
                 with_reducible rfl
                rotate_left
                ·
                 exact ap_
                refine pure_ (i := 9) (N := some 65) (v := ?_) (a' := ?_) #[true, true, false, false, true, false, false, false, false, true, false, false, false, false, false, false] rfl rfl (any_of HT_.out (by kernel_rfl)) (fun _ _ _ h => h) (Or.inl ⟨(by rfl), ?_⟩) ?_ ?_
                rotate_left
                ·
                 intro w'
                 go_simp
                 with_reducible rfl
                rotate_left
                ·
                 exact ap_
                refine take_ (i := 2) (N := some 58) (v := ?_) (a' := ?_) #[true, true, true, false, true, false, false, false, false, true, false, false, false, false, false, false] rfl rfl (take_ofW HT_.out HW_.out (by kernel_rfl)) (fun _ _ _ h => h) (Or.inl ⟨(by rfl), ?_⟩) hHeld ?_ ?_
                rotate_left
                ·
                 rintro w' ⟨s0, s1, s2⟩
                 go_simp
                 with_reducible rfl
                rotate_left
                ·
                 exact ap_
                refine pure_ (i := 3) (N := some 59) (v := ?_) (a' := ?_) #[true, true, true, true, true, false, false, false, false, true, false, false, false, false, false, false] rfl rfl (any_of HT_.out (by kernel_rfl)) (fun _ _ _ h => h) (Or.inl ⟨(by rfl), ?_⟩) ?_ ?_
                rotate_left
                ·
                 intro w'
                 go_simp
                 with_reducible rfl
                rotate_left
                ·
                 exact ap_
                refine take_ (i := 5) (N := some 61) (v := ?_) (a' := ?_) #[true, true, true, true, true, true, false, false, false, true, false, false, false, false, false, false] rfl rfl (take_ofW HT_.out HW_.out (by kernel_rfl)) (fun _ _ _ h => h) (Or.inl ⟨(by rfl), ?_⟩) hHeld ?_ ?_
                rotate_left
                ·
                 rintro w' ⟨s0, s1, s2⟩
                 go_simp
                 with_reducible rfl
                rotate_left
                ·
                 exact ap_
                refine pure_ (i := 6) (N := some 62) (v := ?_) (a' := ?_) #[true, true, true, true, true, true, true, false, false, true, false, false, false, false, false, false] rfl rfl (any_of HT_.out (by kernel_rfl)) (fun _ _ _ h => h) (Or.inl ⟨(by rfl), ?_⟩) ?_ ?_
                rotate_left
                ·
                 intro w'
                 go_simp
                 with_reducible rfl
                rotate_left
                ·
                 exact ap_
                refine take_ (i := 10) (N := some 66) (v := ?_) (a' := ?_) #[true, true, true, true, true, true, true, false, false, true, true, false, false, false, false, false] rfl rfl (take_ofW HT_.out HW_.out (by kernel_rfl)) (fun _ _ _ h => h) (Or.inl ⟨(by rfl), ?_⟩) hHeld ?_ ?_
                rotate_left
                ·
                 rintro w' ⟨s0, s1, s2⟩
                 go_simp
                 with_reducible rfl
                rotate_left
                ·
                 exact ap_
                refine join_ (σ := Value × Value) 3 #[true, true, true, true, true, true, true, true, true, true, true, true, true, false, false, false] (fun s_ => [(63, s_.1), (64, .string (strOfNums y117)), (67, s_.2), (68, .string (strOfNums t120))]) (fun s_ w' => (w'.cell? ⟨gb116, 0, none⟩ = some (.int .i64 ((rd_T126 (rd_L5 y105 x5_1) x6_2).f0)) ∧ w'.cell? ⟨gb116, 1, none⟩ = some (.int .i64 ((rd_T126 (rd_L5 y105 x5_1) x6_2).f1)) ∧ w'.cell? ⟨gb116, 2, none⟩ = some (.int .i64 ((rd_T126 (rd_L5 y105 x5_1) x6_2).f2))) ∧ (Kd.V k126 126 w' w.heap.size (fun k_ => ((P0_3_ k_ ∨ P0_4_ k_ ∨ P0_5_ k_) ∨ w.heap.size ≤ k_) ∧ some k_ ≠ (s_.1 : Value).ownBlock ∧ some k_ ≠ (s_.2 : Value).ownBlock ∧ some k_ ≠ (.slice (some ad109) y105.length co16 : Value).ownBlock ∧ k_ ≠ gb101 ∧ k_ ≠ gb116) (.slice (some ad115) (rd_L5 y105 x5_1).length c113_0) (rd_L5 y105 x5_1)) ∧ (Kd.V k126 126 w' w.heap.size (fun k_ => ((P0_3_ k_ ∨ P0_4_ k_ ∨ P0_5_ k_) ∨ w.heap.size ≤ k_) ∧ some k_ ≠ (s_.1 : Value).ownBlock ∧ some k_ ≠ (s_.2 : Value).ownBlock ∧ some k_ ≠ (.slice (some ad109) y105.length co16 : Value).ownBlock ∧ k_ ≠ gb101 ∧ k_ ≠ gb116) (.slice (some ad115) (rd_L5 y105 x5_1).length c113_0) (rd_L5 y105 x5_1)) ∧ (Kd.R (Kd.int .u8) 5 w' w.heap.size (fun k_ => (w.heap.size ≤ k_) ∧ some k_ ≠ (s_.2 : Value).ownBlock) s_.1 y117) ∧ (Kd.R (Kd.int .u8) 5 w' w.heap.size (fun k_ => (w.heap.size ≤ k_) ∧ some k_ ≠ (s_.1 : Value).ownBlock) s_.2 t120) ∧ (Kd.V k126 126 w' w.heap.size (fun k_ => ((P0_3_ k_ ∨ P0_4_ k_ ∨ P0_5_ k_) ∨ w.heap.size ≤ k_) ∧ some k_ ≠ (s_.1 : Value).ownBlock ∧ some k_ ≠ (s_.2 : Value).ownBlock ∧ some k_ ≠ (.slice (some ad109) y105.length co16 : Value).ownBlock ∧ k_ ≠ gb101 ∧ k_ ≠ gb116) (.slice A0_3 l0_3.length c0_3) l0_3) ∧ (Kd.V k126 126 w' w.heap.size (fun k_ => ((P0_3_ k_ ∨ P0_4_ k_ ∨ P0_5_ k_) ∨ w.heap.size ≤ k_) ∧ some k_ ≠ (s_.1 : Value).ownBlock ∧ some k_ ≠ (s_.2 : Value).ownBlock ∧ some k_ ≠ (.slice (some ad109) y105.length co16 : Value).ownBlock ∧ k_ ≠ gb101 ∧ k_ ≠ gb116) (.slice A0_4 l0_4.length c0_4) l0_4) ∧ (Kd.V k126 126 w' w.heap.size (fun k_ => ((P0_3_ k_ ∨ P0_4_ k_ ∨ P0_5_ k_) ∨ w.heap.size ≤ k_) ∧ some k_ ≠ (s_.1 : Value).ownBlock ∧ some k_ ≠ (s_.2 : Value).ownBlock ∧ some k_ ≠ (.slice (some ad109) y105.length co16 : Value).ownBlock ∧ k_ ≠ gb101 ∧ k_ ≠ gb116) (.slice A0_5 l0_5.length c0_5) l0_5) ∧ (Kd.N (Kd.slice 126 k126) 44 w' w.heap.size (fun k_ => ((P0_3_ k_ ∨ P0_4_ k_ ∨ P0_5_ k_) ∨ w.heap.size ≤ k_) ∧ some k_ ≠ (s_.1 : Value).ownBlock ∧ some k_ ≠ (s_.2 : Value).ownBlock ∧ k_ ≠ gb101 ∧ k_ ≠ gb116) (.slice (some ad109) y105.length co16) y105) ∧ (w'.heap[gb101]? = some (.cells #[.int .i64 a0_0, .int .i64 a0_1, .int .i64 a0_2, .slice A0_3 l0_3.length c0_3, .slice A0_4 l0_4.length c0_4, .slice A0_5 l0_5.length c0_5] 46 (0, 0))) ∧ (w'.heap[gb116]? = some (.cells #[.int .i64 ((rd_T126 (rd_L5 y105 x5_1) x6_2).f0), .int .i64 ((rd_T126 (rd_L5 y105 x5_1) x6_2).f1), .int .i64 ((rd_T126 (rd_L5 y105 x5_1) x6_2).f2)] 126 (0, 0))) ∧ (Below w.heap.size w w')) ?_ ?_
                rotate_left
                ·
                 intro hJ7_8_11_12
                 refine join_ (σ := Value × Value) 4 #[true, true, true, true, true, true, true, true, true, true, true, true, false, false, false, false] (fun s_ => [(63, s_.1), (64, .string (strOfNums y117)), (67, s_.2)]) (fun s_ w' => (w'.cell? ⟨gb116, 0, none⟩ = some (.int .i64 ((rd_T126 (rd_L5 y105 x5_1) x6_2).f0)) ∧ w'.cell? ⟨gb116, 1, none⟩ = some (.int .i64 ((rd_T126 (rd_L5 y105 x5_1) x6_2).f1)) ∧ w'.cell? ⟨gb116, 2, none⟩ = some (.int .i64 ((rd_T126 (rd_L5 y105 x5_1) x6_2).f2))) ∧ (Kd.V k126 126 w' w.heap.size (fun k_ => ((P0_3_ k_ ∨ P0_4_ k_ ∨ P0_5_ k_) ∨ w.heap.size ≤ k_) ∧ some k_ ≠ (s_.1 : Value).ownBlock ∧ some k_ ≠ (s_.2 : Value).ownBlock ∧ some k_ ≠ (.slice (some ad109) y105.length co16 : Value).ownBlock ∧ k_ ≠ gb101 ∧ k_ ≠ gb116) (.slice (some ad115) (rd_L5 y105 x5_1).length c113_0) (rd_L5 y105 x5_1)) ∧ (Kd.V k126 126 w' w.heap.size (fun k_ => ((P0_3_ k_ ∨ P0_4_ k_ ∨ P0_5_ k_) ∨ w.heap.size ≤ k_) ∧ some k_ ≠ (s_.1 : Value).ownBlock ∧ some k_ ≠ (s_.2 : Value).ownBlock ∧ some k_ ≠ (.slice (some ad109) y105.length co16 : Value).ownBlock ∧ k_ ≠ gb101 ∧ k_ ≠ gb116) (.slice (some ad115) (rd_L5 y105 x5_1).length c113_0) (rd_L5 y105 x5_1)) ∧ (Kd.R (Kd.int .u8) 5 w' w.heap.size (fun k_ => (w.heap.size ≤ k_) ∧ some k_ ≠ (s_.2 : Value).ownBlock) s_.1 y117) ∧ (Kd.R (Kd.int .u8) 5 w' w.heap.size (fun k_ => (w.heap.size ≤ k_) ∧ some k_ ≠ (s_.1 : Value).ownBlock) s_.2 t120) ∧ (Kd.V k126 126 w' w.heap.size (fun k_ => ((P0_3_ k_ ∨ P0_4_ k_ ∨ P0_5_ k_) ∨ w.heap.size ≤ k_) ∧ some k_ ≠ (s_.1 : Value).ownBlock ∧ some k_ ≠ (s_.2 : Value).ownBlock ∧ some k_ ≠ (.slice (some ad109) y105.length co16 : Value).ownBlock ∧ k_ ≠ gb101 ∧ k_ ≠ gb116) (.slice A0_3 l0_3.length c0_3) l0_3) ∧ (Kd.V k126 126 w' w.heap.size (fun k_ => ((P0_3_ k_ ∨ P0_4_ k_ ∨ P0_5_ k_) ∨ w.heap.size ≤ k_) ∧ some k_ ≠ (s_.1 : Value).ownBlock ∧ some k_ ≠ (s_.2 : Value).ownBlock ∧ some k_ ≠ (.slice (some ad109) y105.length co16 : Value).ownBlock ∧ k_ ≠ gb101 ∧ k_ ≠ gb116) (.slice A0_4 l0_4.length c0_4) l0_4) ∧ (Kd.V k126 126 w' w.heap.size (fun k_ => ((P0_3_ k_ ∨ P0_4_ k_ ∨ P0_5_ k_) ∨ w.heap.size ≤ k_) ∧ some k_ ≠ (s_.1 : Value).ownBlock ∧ some k_ ≠ (s_.2 : Value).ownBlock ∧ some k_ ≠ (.slice (some ad109) y105.length co16 : Value).ownBlock ∧ k_ ≠ gb101 ∧ k_ ≠ gb116) (.slice A0_5 l0_5.length c0_5) l0_5) ∧ (Kd.N (Kd.slice 126 k126) 44 w' w.heap.size (fun k_ => ((P0_3_ k_ ∨ P0_4_ k_ ∨ P0_5_ k_) ∨ w.heap.size ≤ k_) ∧ some k_ ≠ (s_.1 : Value).ownBlock ∧ some k_ ≠ (s_.2 : Value).ownBlock ∧ k_ ≠ gb101 ∧ k_ ≠ gb116) (.slice (some ad109) y105.length co16) y105) ∧ (w'.heap[gb101]? = some (.cells #[.int .i64 a0_0, .int .i64 a0_1, .int .i64 a0_2, .slice A0_3 l0_3.length c0_3, .slice A0_4 l0_4.length c0_4, .slice A0_5 l0_5.length c0_5] 46 (0, 0))) ∧ (w'.heap[gb116]? = some (.cells #[.int .i64 ((rd_T126 (rd_L5 y105 x5_1) x6_2).f0), .int .i64 ((rd_T126 (rd_L5 y105 x5_1) x6_2).f1), .int .i64 ((rd_T126 (rd_L5 y105 x5_1) x6_2).f2)] 126 (0, 0))) ∧ (Below w.heap.size w w')) ?_ ?_
                 rotate_left
                 ·
                  intro hJ7_8_11
                  refine join_ (σ := Value × Value) 4 #[true, true, true, true, true, true, true, true, false, true, true, true, true, false, false, false] (fun s_ => [(63, s_.1), (67, s_.2), (68, .string (strOfNums t120))]) (fun s_ w' => (w'.cell? ⟨gb116, 0, none⟩ = some (.int .i64 ((rd_T126 (rd_L5 y105 x5_1) x6_2).f0)) ∧ w'.cell? ⟨gb116, 1, none⟩ = some (.int .i64 ((rd_T126 (rd_L5 y105 x5_1) x6_2).f1)) ∧ w'.cell? ⟨gb116, 2, none⟩ = some (.int .i64 ((rd_T126 (rd_L5 y105 x5_1) x6_2).f2))) ∧ (Kd.V k126 126 w' w.heap.size (fun k_ => ((P0_3_ k_ ∨ P0_4_ k_ ∨ P0_5_ k_) ∨ w.heap.size ≤ k_) ∧ some k_ ≠ (s_.1 : Value).ownBlock ∧ some k_ ≠ (s_.2 : Value).ownBlock ∧ some k_ ≠ (.slice (some ad109) y105.length co16 : Value).ownBlock ∧ k_ ≠ gb101 ∧ k_ ≠ gb116) (.slice (some ad115) (rd_L5 y105 x5_1).length c113_0) (rd_L5 y105 x5_1)) ∧ (Kd.V k126 126 w' w.heap.size (fun k_ => ((P0_3_ k_ ∨ P0_4_ k_ ∨ P0_5_ k_) ∨ w.heap.size ≤ k_) ∧ some k_ ≠ (s_.1 : Value).ownBlock ∧ some k_ ≠ (s_.2 : Value).ownBlock ∧ some k_ ≠ (.slice (some ad109) y105.length co16 : Value).ownBlock ∧ k_ ≠ gb101 ∧ k_ ≠ gb116) (.slice (some ad115) (rd_L5 y105 x5_1).length c113_0) (rd_L5 y105 x5_1)) ∧ (Kd.R (Kd.int .u8) 5 w' w.heap.size (fun k_ => (w.heap.size ≤ k_) ∧ some k_ ≠ (s_.2 : Value).ownBlock) s_.1 y117) ∧ (Kd.R (Kd.int .u8) 5 w' w.heap.size (fun k_ => (w.heap.size ≤ k_) ∧ some k_ ≠ (s_.1 : Value).ownBlock) s_.2 t120) ∧ (Kd.V k126 126 w' w.heap.size (fun k_ => ((P0_3_ k_ ∨ P0_4_ k_ ∨ P0_5_ k_) ∨ w.heap.size ≤ k_) ∧ some k_ ≠ (s_.1 : Value).ownBlock ∧ some k_ ≠ (s_.2 : Value).ownBlock ∧ some k_ ≠ (.slice (some ad109) y105.length co16 : Value).ownBlock ∧ k_ ≠ gb101 ∧ k_ ≠ gb116) (.slice A0_3 l0_3.length c0_3) l0_3) ∧ (Kd.V k126 126 w' w.heap.size (fun k_ => ((P0_3_ k_ ∨ P0_4_ k_ ∨ P0_5_ k_) ∨ w.heap.size ≤ k_) ∧ some k_ ≠ (s_.1 : Value).ownBlock ∧ some k_ ≠ (s_.2 : Value).ownBlock ∧ some k_ ≠ (.slice (some ad109) y105.length co16 : Value).ownBlock ∧ k_ ≠ gb101 ∧ k_ ≠ gb116) (.slice A0_4 l0_4.length c0_4) l0_4) ∧ (Kd.V k126 126 w' w.heap.size (fun k_ => ((P0_3_ k_ ∨ P0_4_ k_ ∨ P0_5_ k_) ∨ w.heap.size ≤ k_) ∧ some k_ ≠ (s_.1 : Value).ownBlock ∧ some k_ ≠ (s_.2 : Value).ownBlock ∧ some k_ ≠ (.slice (some ad109) y105.length co16 : Value).ownBlock ∧ k_ ≠ gb101 ∧ k_ ≠ gb116) (.slice A0_5 l0_5.length c0_5) l0_5) ∧ (Kd.N (Kd.slice 126 k126) 44 w' w.heap.size (fun k_ => ((P0_3_ k_ ∨ P0_4_ k_ ∨ P0_5_ k_) ∨ w.heap.size ≤ k_) ∧ some k_ ≠ (s_.1 : Value).ownBlock ∧ some k_ ≠ (s_.2 : Value).ownBlock ∧ k_ ≠ gb101 ∧ k_ ≠ gb116) (.slice (some ad109) y105.length co16) y105) ∧ (w'.heap[gb101]? = some (.cells #[.int .i64 a0_0, .int .i64 a0_1, .int .i64 a0_2, .slice A0_3 l0_3.length c0_3, .slice A0_4 l0_4.length c0_4, .slice A0_5 l0_5.length c0_5] 46 (0, 0))) ∧ (w'.heap[gb116]? = some (.cells #[.int .i64 ((rd_T126 (rd_L5 y105 x5_1) x6_2).f0), .int .i64 ((rd_T126 (rd_L5 y105 x5_1) x6_2).f1), .int .i64 ((rd_T126 (rd_L5 y105 x5_1) x6_2).f2)] 126 (0, 0))) ∧ (Below w.heap.size w w')) ?_ ?_
                  rotate_left
                  ·
                   intro hJ7_11_12
                   refine join_ (σ := Value) 5 #[true, true, true, true, true, true, true, true, true, true, true, false, false, false, false, false] (fun s_ => [(63, s_), (64, .string (strOfNums y117))]) (fun s_ w' => (w'.cell? ⟨gb116, 0, none⟩ = some (.int .i64 ((rd_T126 (rd_L5 y105 x5_1) x6_2).f0)) ∧ w'.cell? ⟨gb116, 1, none⟩ = some (.int .i64 ((rd_T126 (rd_L5 y105 x5_1) x6_2).f1)) ∧ w'.cell? ⟨gb116, 2, none⟩ = some (.int .i64 ((rd_T126 (rd_L5 y105 x5_1) x6_2).f2))) ∧ (Kd.V k126 126 w' w.heap.size (fun k_ => ((P0_3_ k_ ∨ P0_4_ k_ ∨ P0_5_ k_) ∨ w.heap.size ≤ k_) ∧ some k_ ≠ (s_ : Value).ownBlock ∧ some k_ ≠ (.slice (some ad109) y105.length co16 : Value).ownBlock ∧ k_ ≠ gb101 ∧ k_ ≠ gb116) (.slice (some ad115) (rd_L5 y105 x5_1).length c113_0) (rd_L5 y105 x5_1)) ∧ (Kd.V k126 126 w' w.heap.size (fun k_ => ((P0_3_ k_ ∨ P0_4_ k_ ∨ P0_5_ k_) ∨ w.heap.size ≤ k_) ∧ some k_ ≠ (s_ : Value).ownBlock ∧ some k_ ≠ (.slice (some ad109) y105.length co16 : Value).ownBlock ∧ k_ ≠ gb101 ∧ k_ ≠ gb116) (.slice (some ad115) (rd_L5 y105 x5_1).length c113_0) (rd_L5 y105 x5_1)) ∧ (Kd.R (Kd.int .u8) 5 w' w.heap.size (fun k_ => (w.heap.size ≤ k_)) s_ y117) ∧ (Kd.V k126 126 w' w.heap.size (fun k_ => ((P0_3_ k_ ∨ P0_4_ k_ ∨ P0_5_ k_) ∨ w.heap.size ≤ k_) ∧ some k_ ≠ (s_ : Value).ownBlock ∧ some k_ ≠ (.slice (some ad109) y105.length co16 : Value).ownBlock ∧ k_ ≠ gb101 ∧ k_ ≠ gb116) (.slice A0_3 l0_3.length c0_3) l0_3) ∧ (Kd.V k126 126 w' w.heap.size (fun k_ => ((P0_3_ k_ ∨ P0_4_ k_ ∨ P0_5_ k_) ∨ w.heap.size ≤ k_) ∧ some k_ ≠ (s_ : Value).ownBlock ∧ some k_ ≠ (.slice (some ad109) y105.length co16 : Value).ownBlock ∧ k_ ≠ gb101 ∧ k_ ≠ gb116) (.slice A0_4 l0_4.length c0_4) l0_4) ∧ (Kd.V k126 126 w' w.heap.size (fun k_ => ((P0_3_ k_ ∨ P0_4_ k_ ∨ P0_5_ k_) ∨ w.heap.size ≤ k_) ∧ some k_ ≠ (s_ : Value).ownBlock ∧ some k_ ≠ (.slice (some ad109) y105.length co16 : Value).ownBlock ∧ k_ ≠ gb101 ∧ k_ ≠ gb116) (.slice A0_5 l0_5.length c0_5) l0_5) ∧ (Kd.N (Kd.slice 126 k126) 44 w' w.heap.size (fun k_ => ((P0_3_ k_ ∨ P0_4_ k_ ∨ P0_5_ k_) ∨ w.heap.size ≤ k_) ∧ some k_ ≠ (s_ : Value).ownBlock ∧ k_ ≠ gb101 ∧ k_ ≠ gb116) (.slice (some ad109) y105.length co16) y105) ∧ (w'.heap[gb101]? = some (.cells #[.int .i64 a0_0, .int .i64 a0_1, .int .i64 a0_2, .slice A0_3 l0_3.length c0_3, .slice A0_4 l0_4.length c0_4, .slice A0_5 l0_5.length c0_5] 46 (0, 0))) ∧ (w'.heap[gb116]? = some (.cells #[.int .i64 ((rd_T126 (rd_L5 y105 x5_1) x6_2).f0), .int .i64 ((rd_T126 (rd_L5 y105 x5_1) x6_2).f1), .int .i64 ((rd_T126 (rd_L5 y105 x5_1) x6_2).f2)] 126 (0, 0))) ∧ (Below w.heap.size w w')) ?_ ?_
                   rotate_left
                   ·
                    intro hJ7_8
                    refine join_ (σ := Value × Value) 5 #[true, true, true, true, true, true, true, true, false, true, true, true, false, false, false, false] (fun s_ => [(63, s_.1), (67, s_.2)]) (fun s_ w' => (w'.cell? ⟨gb116, 0, none⟩ = some (.int .i64 ((rd_T126 (rd_L5 y105 x5_1) x6_2).f0)) ∧ w'.cell? ⟨gb116, 1, none⟩ = some (.int .i64 ((rd_T126 (rd_L5 y105 x5_1) x6_2).f1)) ∧ w'.cell? ⟨gb116, 2, none⟩ = some (.int .i64 ((rd_T126 (rd_L5 y105 x5_1) x6_2).f2))) ∧ (Kd.V k126 126 w' w.heap.size (fun k_ => ((P0_3_ k_ ∨ P0_4_ k_ ∨ P0_5_ k_) ∨ w.heap.size ≤ k_) ∧ some k_ ≠ (s_.1 : Value).ownBlock ∧ some k_ ≠ (s_.2 : Value).ownBlock ∧ some k_ ≠ (.slice (some ad109) y105.length co16 : Value).ownBlock ∧ k_ ≠ gb101 ∧ k_ ≠ gb116) (.slice (some ad115) (rd_L5 y105 x5_1).length c113_0) (rd_L5 y105 x5_1)) ∧ (Kd.V k126 126 w' w.heap.size (fun k_ => ((P0_3_ k_ ∨ P0_4_ k_ ∨ P0_5_ k_) ∨ w.heap.size ≤ k_) ∧ some k_ ≠ (s_.1 : Value).ownBlock ∧ some k_ ≠ (s_.2 : Value).ownBlock ∧ some k_ ≠ (.slice (some ad109) y105.length co16 : Value).ownBlock ∧ k_ ≠ gb101 ∧ k_ ≠ gb116) (.slice (some ad115) (rd_L5 y105 x5_1).length c113_0) (rd_L5 y105 x5_1)) ∧ (Kd.R (Kd.int .u8) 5 w' w.heap.size (fun k_ => (w.heap.size ≤ k_) ∧ some k_ ≠ (s_.2 : Value).ownBlock) s_.1 y117) ∧ (Kd.R (Kd.int .u8) 5 w' w.heap.size (fun k_ => (w.heap.size ≤ k_) ∧ some k_ ≠ (s_.1 : Value).ownBlock) s_.2 t120) ∧ (Kd.V k126 126 w' w.heap.size (fun k_ => ((P0_3_ k_ ∨ P0_4_ k_ ∨ P0_5_ k_) ∨ w.heap.size ≤ k_) ∧ some k_ ≠ (s_.1 : Value).ownBlock ∧ some k_ ≠ (s_.2 : Value).ownBlock ∧ some k_ ≠ (.slice (some ad109) y105.length co16 : Value).ownBlock ∧ k_ ≠ gb101 ∧ k_ ≠ gb116) (.slice A0_3 l0_3.length c0_3) l0_3) ∧ (Kd.V k126 126 w' w.heap.size (fun k_ => ((P0_3_ k_ ∨ P0_4_ k_ ∨ P0_5_ k_) ∨ w.heap.size ≤ k_) ∧ some k_ ≠ (s_.1 : Value).ownBlock ∧ some k_ ≠ (s_.2 : Value).ownBlock ∧ some k_ ≠ (.slice (some ad109) y105.length co16 : Value).ownBlock ∧ k_ ≠ gb101 ∧ k_ ≠ gb116) (.slice A0_4 l0_4.length c0_4) l0_4) ∧ (Kd.V k126 126 w' w.heap.size (fun k_ => ((P0_3_ k_ ∨ P0_4_ k_ ∨ P0_5_ k_) ∨ w.heap.size ≤ k_) ∧ some k_ ≠ (s_.1 : Value).ownBlock ∧ some k_ ≠ (s_.2 : Value).ownBlock ∧ some k_ ≠ (.slice (some ad109) y105.length co16 : Value).ownBlock ∧ k_ ≠ gb101 ∧ k_ ≠ gb116) (.slice A0_5 l0_5.length c0_5) l0_5) ∧ (Kd.N (Kd.slice 126 k126) 44 w' w.heap.size (fun k_ => ((P0_3_ k_ ∨ P0_4_ k_ ∨ P0_5_ k_) ∨ w.heap.size ≤ k_) ∧ some k_ ≠ (s_.1 : Value).ownBlock ∧ some k_ ≠ (s_.2 : Value).ownBlock ∧ k_ ≠ gb101 ∧ k_ ≠ gb116) (.slice (some ad109) y105.length co16) y105) ∧ (w'.heap[gb101]? = some (.cells #[.int .i64 a0_0, .int .i64 a0_1, .int .i64 a0_2, .slice A0_3 l0_3.length c0_3, .slice A0_4 l0_4.length c0_4, .slice A0_5 l0_5.length c0_5] 46 (0, 0))) ∧ (w'.heap[gb116]? = some (.cells #[.int .i64 ((rd_T126 (rd_L5 y105 x5_1) x6_2).f0), .int .i64 ((rd_T126 (rd_L5 y105 x5_1) x6_2).f1), .int .i64 ((rd_T126 (rd_L5 y105 x5_1) x6_2).f2)] 126 (0, 0))) ∧ (Below w.heap.size w w')) ?_ ?_
                    rotate_left
                    ·
                     intro hJ7_11
                     refine join_ (σ := Value) 5 #[true, true, true, true, true, true, true, false, false, true, true, true, true, false, false, false] (fun s_ => [(67, s_), (68, .string (strOfNums t120))]) (fun s_ w' => (w'.cell? ⟨gb116, 0, none⟩ = some (.int .i64 ((rd_T126 (rd_L5 y105 x5_1) x6_2).f0)) ∧ w'.cell? ⟨gb116, 1, none⟩ = some (.int .i64 ((rd_T126 (rd_L5 y105 x5_1) x6_2).f1)) ∧ w'.cell? ⟨gb116, 2, none⟩ = some (.int .i64 ((rd_T126 (rd_L5 y105 x5_1) x6_2).f2))) ∧ (Kd.V k126 126 w' w.heap.size (fun k_ => ((P0_3_ k_ ∨ P0_4_ k_ ∨ P0_5_ k_) ∨ w.heap.size ≤ k_) ∧ some k_ ≠ (s_ : Value).ownBlock ∧ some k_ ≠ (.slice (some ad109) y105.length co16 : Value).ownBlock ∧ k_ ≠ gb101 ∧ k_ ≠ gb116) (.slice (some ad115) (rd_L5 y105 x5_1).length c113_0) (rd_L5 y105 x5_1)) ∧ (Kd.V k126 126 w' w.heap.size (fun k_ => ((P0_3_ k_ ∨ P0_4_ k_ ∨ P0_5_ k_) ∨ w.heap.size ≤ k_) ∧ some k_ ≠ (s_ : Value).ownBlock ∧ some k_ ≠ (.slice (some ad109) y105.length co16 : Value).ownBlock ∧ k_ ≠ gb101 ∧ k_ ≠ gb116) (.slice (some ad115) (rd_L5 y105 x5_1).length c113_0) (rd_L5 y105 x5_1)) ∧ (Kd.R (Kd.int .u8) 5 w' w.heap.size (fun k_ => (w.heap.size ≤ k_)) s_ t120) ∧ (Kd.V k126 126 w' w.heap.size (fun k_ => ((P0_3_ k_ ∨ P0_4_ k_ ∨ P0_5_ k_) ∨ w.heap.size ≤ k_) ∧ some k_ ≠ (s_ : Value).ownBlock ∧ some k_ ≠ (.slice (some ad109) y105.length co16 : Value).ownBlock ∧ k_ ≠ gb101 ∧ k_ ≠ gb116) (.slice A0_3 l0_3.length c0_3) l0_3) ∧ (Kd.V k126 126 w' w.heap.size (fun k_ => ((P0_3_ k_ ∨ P0_4_ k_ ∨ P0_5_ k_) ∨ w.heap.size ≤ k_) ∧ some k_ ≠ (s_ : Value).ownBlock ∧ some k_ ≠ (.slice (some ad109) y105.length co16 : Value).ownBlock ∧ k_ ≠ gb101 ∧ k_ ≠ gb116) (.slice A0_4 l0_4.length c0_4) l0_4) ∧ (Kd.V k126 126 w' w.heap.size (fun k_ => ((P0_3_ k_ ∨ P0_4_ k_ ∨ P0_5_ k_) ∨ w.heap.size ≤ k_) ∧ some k_ ≠ (s_ : Value).ownBlock ∧ some k_ ≠ (.slice (some ad109) y105.length co16 : Value).ownBlock ∧ k_ ≠ gb101 ∧ k_ ≠ gb116) (.slice A0_5 l0_5.length c0_5) l0_5) ∧ (Kd.N (Kd.slice 126 k126) 44 w' w.heap.size (fun k_ => ((P0_3_ k_ ∨ P0_4_ k_ ∨ P0_5_ k_) ∨ w.heap.size ≤ k_) ∧ some k_ ≠ (s_ : Value).ownBlock ∧ k_ ≠ gb101 ∧ k_ ≠ gb116) (.slice (some ad109) y105.length co16) y105) ∧ (w'.heap[gb101]? = some (.cells #[.int .i64 a0_0, .int .i64 a0_1, .int .i64 a0_2, .slice A0_3 l0_3.length c0_3, .slice A0_4 l0_4.length c0_4, .slice A0_5 l0_5.length c0_5] 46 (0, 0))) ∧ (w'.heap[gb116]? = some (.cells #[.int .i64 ((rd_T126 (rd_L5 y105 x5_1) x6_2).f0), .int .i64 ((rd_T126 (rd_L5 y105 x5_1) x6_2).f1), .int .i64 ((rd_T126 (rd_L5 y105 x5_1) x6_2).f2)] 126 (0, 0))) ∧ (Below w.heap.size w w')) ?_ ?_
                     rotate_left
                     ·
                      intro hJ11_12
                      refine join_ (σ := Value) 6 #[true, true, true, true, true, true, true, true, false, true, true, false, false, false, false, false] (fun s_ => [(63, s_)]) (fun s_ w' => (w'.cell? ⟨gb116, 0, none⟩ = some (.int .i64 ((rd_T126 (rd_L5 y105 x5_1) x6_2).f0)) ∧ w'.cell? ⟨gb116, 1, none⟩ = some (.int .i64 ((rd_T126 (rd_L5 y105 x5_1) x6_2).f1)) ∧ w'.cell? ⟨gb116, 2, none⟩ = some (.int .i64 ((rd_T126 (rd_L5 y105 x5_1) x6_2).f2))) ∧ (Kd.V k126 126 w' w.heap.size (fun k_ => ((P0_3_ k_ ∨ P0_4_ k_ ∨ P0_5_ k_) ∨ w.heap.size ≤ k_) ∧ some k_ ≠ (s_ : Value).ownBlock ∧ some k_ ≠ (.slice (some ad109) y105.length co16 : Value).ownBlock ∧ k_ ≠ gb101 ∧ k_ ≠ gb116) (.slice (some ad115) (rd_L5 y105 x5_1).length c113_0) (rd_L5 y105 x5_1)) ∧ (Kd.V k126 126 w' w.heap.size (fun k_ => ((P0_3_ k_ ∨ P0_4_ k_ ∨ P0_5_ k_) ∨ w.heap.size ≤ k_) ∧ some k_ ≠ (s_ : Value).ownBlock ∧ some k_ ≠ (.slice (some ad109) y105.length co16 : Value).ownBlock ∧ k_ ≠ gb101 ∧ k_ ≠ gb116) (.slice (some ad115) (rd_L5 y105 x5_1).length c113_0) (rd_L5 y105 x5_1)) ∧ (Kd.R (Kd.int .u8) 5 w' w.heap.size (fun k_ => (w.heap.size ≤ k_)) s_ y117) ∧ (Kd.V k126 126 w' w.heap.size (fun k_ => ((P0_3_ k_ ∨ P0_4_ k_ ∨ P0_5_ k_) ∨ w.heap.size ≤ k_) ∧ some k_ ≠ (s_ : Value).ownBlock ∧ some k_ ≠ (.slice (some ad109) y105.length co16 : Value).ownBlock ∧ k_ ≠ gb101 ∧ k_ ≠ gb116) (.slice A0_3 l0_3.length c0_3) l0_3) ∧ (Kd.V k126 126 w' w.heap.size (fun k_ => ((P0_3_ k_ ∨ P0_4_ k_ ∨ P0_5_ k_) ∨ w.heap.size ≤ k_) ∧ some k_ ≠ (s_ : Value).ownBlock ∧ some k_ ≠ (.slice (some ad109) y105.length co16 : Value).ownBlock ∧ k_ ≠ gb101 ∧ k_ ≠ gb116) (.slice A0_4 l0_4.length c0_4) l0_4) ∧ (Kd.V k126 126 w' w.heap.size (fun k_ => ((P0_3_ k_ ∨ P0_4_ k_ ∨ P0_5_ k_) ∨ w.heap.size ≤ k_) ∧ some k_ ≠ (s_ : Value).ownBlock ∧ some k_ ≠ (.slice (some ad109) y105.length co16 : Value).ownBlock ∧ k_ ≠ gb101 ∧ k_ ≠ gb116) (.slice A0_5 l0_5.length c0_5) l0_5) ∧ (Kd.N (Kd.slice 126 k126) 44 w' w.heap.size (fun k_ => ((P0_3_ k_ ∨ P0_4_ k_ ∨ P0_5_ k_) ∨ w.heap.size ≤ k_) ∧ some k_ ≠ (s_ : Value).ownBlock ∧ k_ ≠ gb101 ∧ k_ ≠ gb116) (.slice (some ad109) y105.length co16) y105) ∧ (w'.heap[gb101]? = some (.cells #[.int .i64 a0_0, .int .i64 a0_1, .int .i64 a0_2, .slice A0_3 l0_3.length c0_3, .slice A0_4 l0_4.length c0_4, .slice A0_5 l0_5.length c0_5] 46 (0, 0))) ∧ (w'.heap[gb116]? = some (.cells #[.int .i64 ((rd_T126 (rd_L5 y105 x5_1) x6_2).f0), .int .i64 ((rd_T126 (rd_L5 y105 x5_1) x6_2).f1), .int .i64 ((rd_T126 (rd_L5 y105 x5_1) x6_2).f2)] 126 (0, 0))) ∧ (Below w.heap.size w w')) ?_ ?_
                      rotate_left
                      ·
                       intro hJ7
                       refine join_ (σ := Value) 6 #[true, true, true, true, true, true, true, false, false, true, true, true, false, false, false, false] (fun s_ => [(67, s_)]) (fun s_ w' => (w'.cell? ⟨gb116, 0, none⟩ = some (.int .i64 ((rd_T126 (rd_L5 y105 x5_1) x6_2).f0)) ∧ w'.cell? ⟨gb116, 1, none⟩ = some (.int .i64 ((rd_T126 (rd_L5 y105 x5_1) x6_2).f1)) ∧ w'.cell? ⟨gb116, 2, none⟩ = some (.int .i64 ((rd_T126 (rd_L5 y105 x5_1) x6_2).f2))) ∧ (Kd.V k126 126 w' w.heap.size (fun k_ => ((P0_3_ k_ ∨ P0_4_ k_ ∨ P0_5_ k_) ∨ w.heap.size ≤ k_) ∧ some k_ ≠ (s_ : Value).ownBlock ∧ some k_ ≠ (.slice (some ad109) y105.length co16 : Value).ownBlock ∧ k_ ≠ gb101 ∧ k_ ≠ gb116) (.slice (some ad115) (rd_L5 y105 x5_1).length c113_0) (rd_L5 y105 x5_1)) ∧ (Kd.V k126 126 w' w.heap.size (fun k_ => ((P0_3_ k_ ∨ P0_4_ k_ ∨ P0_5_ k_) ∨ w.heap.size ≤ k_) ∧ some k_ ≠ (s_ : Value).ownBlock ∧ some k_ ≠ (.slice (some ad109) y105.length co16 : Value).ownBlock ∧ k_ ≠ gb101 ∧ k_ ≠ gb116) (.slice (some ad115) (rd_L5 y105 x5_1).length c113_0) (rd_L5 y105 x5_1)) ∧ (Kd.R (Kd.int .u8) 5 w' w.heap.size (fun k_ => (w.heap.size ≤ k_)) s_ t120) ∧ (Kd.V k126 126 w' w.heap.size (fun k_ => ((P0_3_ k_ ∨ P0_4_ k_ ∨ P0_5_ k_) ∨ w.heap.size ≤ k_) ∧ some k_ ≠ (s_ : Value).ownBlock ∧ some k_ ≠ (.slice (some ad109) y105.length co16 : Value).ownBlock ∧ k_ ≠ gb101 ∧ k_ ≠ gb116) (.slice A0_3 l0_3.length c0_3) l0_3) ∧ (Kd.V k126 126 w' w.heap.size (fun k_ => ((P0_3_ k_ ∨ P0_4_ k_ ∨ P0_5_ k_) ∨ w.heap.size ≤ k_) ∧ some k_ ≠ (s_ : Value).ownBlock ∧ some k_ ≠ (.slice (some ad109) y105.length co16 : Value).ownBlock ∧ k_ ≠ gb101 ∧ k_ ≠ gb116) (.slice A0_4 l0_4.length c0_4) l0_4) ∧ (Kd.V k126 126 w' w.heap.size (fun k_ => ((P0_3_ k_ ∨ P0_4_ k_ ∨ P0_5_ k_) ∨ w.heap.size ≤ k_) ∧ some k_ ≠ (s_ : Value).ownBlock ∧ some k_ ≠ (.slice (some ad109) y105.length co16 : Value).ownBlock ∧ k_ ≠ gb101 ∧ k_ ≠ gb116) (.slice A0_5 l0_5.length c0_5) l0_5) ∧ (Kd.N (Kd.slice 126 k126) 44 w' w.heap.size (fun k_ => ((P0_3_ k_ ∨ P0_4_ k_ ∨ P0_5_ k_) ∨ w.heap.size ≤ k_) ∧ some k_ ≠ (s_ : Value).ownBlock ∧ k_ ≠ gb101 ∧ k_ ≠ gb116) (.slice (some ad109) y105.length co16) y105) ∧ (w'.heap[gb101]? = some (.cells #[.int .i64 a0_0, .int .i64 a0_1, .int .i64 a0_2, .slice A0_3 l0_3.length c0_3, .slice A0_4 l0_4.length c0_4, .slice A0_5 l0_5.length c0_5] 46 (0, 0))) ∧ (w'.heap[gb116]? = some (.cells #[.int .i64 ((rd_T126 (rd_L5 y105 x5_1) x6_2).f0), .int .i64 ((rd_T126 (rd_L5 y105 x5_1) x6_2).f1), .int .i64 ((rd_T126 (rd_L5 y105 x5_1) x6_2).f2)] 126 (0, 0))) ∧ (Below w.heap.size w w')) ?_ ?_
                       rotate_left
                       ·
                        intro hJ11
                        refine two_ (i := 7) (j := 11) (Ni := some 63) (Nj := some 67) #[true, true, true, true, true, true, true, true, false, true, true, false, false, false, false, false] #[true, true, true, true, true, true, true, false, false, true, true, true, false, false, false, false] rfl rfl rfl rfl (two_of HT_.out (by kernel_rfl)) (by decide) (by decide) (fun K hK => ?_) (fun K hK => ?_)
                        ·
                         skip
                         refine Kd.R_lit_step (Kd.int .u8) _ 5 ?hg (N := 63) ?hd (xs := ([((rd_T126 (rd_L5 y105 x5_1) x6_2).f0) % 256, ((rd_T126 (rd_L5 y105 x5_1) x6_2).f1) % 256] : List Int)) (inner := [.int .u8 (((rd_T126 (rd_L5 y105 x5_1) x6_2).f0) % 256), .int .u8 (((rd_T126 (rd_L5 y105 x5_1) x6_2).f1) % 256)]) (ok := fun _ => True) (okp := fun _ => True) ?hr ?hp (fun _ hk => hk) trivial (Below.refl _ _) (Nat.le_refl _) (by simp) ?_; (case hd => rfl); (case hg => rfl); (case hr => first | (go_simp; done) | (go_simp; rfl)); (case hp => exact (Reps.one (show Kd.M (Kd.int .u8) _ _ _ (((rd_T126 (rd_L5 y105 x5_1) x6_2).f0) % 256) [.int .u8 (((rd_T126 (rd_L5 y105 x5_1) x6_2).f0) % 256)] from rfl) (Reps.one (show Kd.M (Kd.int .u8) _ _ _ (((rd_T126 (rd_L5 y105 x5_1) x6_2).f1) % 256) [.int .u8 (((rd_T126 (rd_L5 y105 x5_1) x6_2).f1) % 256)] from rfl) (Reps.none _ _))))
                         intro v118 w31 ho32 hb hg_ hnew_
                         clear hg_ hnew_
                         (first | rw [← Ny117.out] at ho32 | (simp only [Int.reduceToNat] at ho32; rw [← Ny117.out] at ho32))
                         have n0_ := am_ (Kd.N_elder' qz15_ (Kd.R_base ho32) hb)
                         have n1_ := am_ (Kd.V_elder' qz16_ (Kd.R_base ho32) hb)
                         have n2_ := am_ (Kd.V_elder' qz17_ (Kd.R_base ho32) hb)
                         have n3_ := am_ (Kd.V_elder' qz18_ (Kd.R_base ho32) hb)
                         have n4_ := am_ (Kd.V_elder' qz19_ (Kd.R_base ho32) hb)
                         have n5_ := am_ (Kd.V_elder' qz20_ (Kd.R_base ho32) hb)
                         have n6_ := am_ (Kd.R_lower (Kd.R_newM (M := fun k_ => (w.heap.size ≤ k_)) ho32 (below_size qz21_) (fun k_ h_ => h_)) (below_size qz21_))
                         have n7_ := am_ (blk_below (g := gb101) (o := .cells #[.int .i64 a0_0, .int .i64 a0_1, .int .i64 a0_2, .slice A0_3 l0_3.length c0_3, .slice A0_4 l0_4.length c0_4, .slice A0_5 l0_5.length c0_5] 46 (0, 0)) qz9_ hb)
                         have n8_ := am_ (blk_below (g := gb116) (o := .cells #[.int .i64 ((rd_T126 (rd_L5 y105 x5_1) x6_2).f0), .int .i64 ((rd_T126 (rd_L5 y105 x5_1) x6_2).f1), .int .i64 ((rd_T126 (rd_L5 y105 x5_1) x6_2).f2)] 126 (0, 0)) qz22_ hb)
                         have n9_ := am_ (below_step qz21_ hb)
                         clear HO_4
                         clear HO_102003
                         clear HO_102004
                         clear HO_102005
                         clear HL113_0
                         clear HL114_0
                         clear BK101
                         clear BK116
                         clear HB
                         have HO_4 := n0_
                         have HO_102003 := n1_
                         have HO_102004 := n2_
                         have HO_102005 := n3_
                         have HL113_0 := n4_
                         have HL114_0 := n5_
                         have HO119 := n6_
                         have BK101 := n7_
                         have BK116 := n8_
                         have HB := n9_
                         clear n0_ n1_ n2_ n3_ n4_ n5_ n6_ n7_ n8_ n9_
                         clear hb ho32
                         refine hK.out _ _ ⟨(blk_cell BK116.out 0).trans rfl, (blk_cell BK116.out 1).trans rfl, (blk_cell BK116.out 2).trans rfl⟩ (fun hHeld => ?_)
                         clear hK K
                         refine norm_ (a' := ?_) ?_ ?_
                         rotate_left
                         ·
                          show Act.put _ (some 63) _ = _
                          exact ap_
                         exact norm_ qz23_ (hJ7 (v118) _ ⟨hHeld, (by (with_reducible repeat (first | apply Kd.V_alloc | apply Kd.V_drewN | apply Kd.V_drew)); exact Kd.V_mono HL113_0.out (fun _ hk => ⟨hk.1.1, ⟨hk.2, ⟨hk.1.2.1, ⟨hk.1.2.2.1, hk.1.2.2.2⟩⟩⟩⟩)), (by (with_reducible repeat (first | apply Kd.V_alloc | apply Kd.V_drewN | apply Kd.V_drew)); exact Kd.V_mono HL114_0.out (fun _ hk => ⟨hk.1.1, ⟨hk.2, ⟨hk.1.2.1, ⟨hk.1.2.2.1, hk.1.2.2.2⟩⟩⟩⟩)), (by (with_reducible repeat (first | apply Kd.R_alloc | apply Kd.R_drewN | apply Kd.R_drew)); exact Kd.R_mono HO119.out (fun _ hk => hk.1)), (by (with_reducible repeat (first | apply Kd.V_alloc | apply Kd.V_drewN | apply Kd.V_drew)); exact Kd.V_mono HO_102003.out (fun _ hk => ⟨hk.1.1, ⟨hk.2, ⟨hk.1.2.1, ⟨hk.1.2.2.1, hk.1.2.2.2⟩⟩⟩⟩)), (by (with_reducible repeat (first | apply Kd.V_alloc | apply Kd.V_drewN | apply Kd.V_drew)); exact Kd.V_mono HO_102004.out (fun _ hk => ⟨hk.1.1, ⟨hk.2, ⟨hk.1.2.1, ⟨hk.1.2.2.1, hk.1.2.2.2⟩⟩⟩⟩)), (by (with_reducible repeat (first | apply Kd.V_alloc | apply Kd.V_drewN | apply Kd.V_drew)); exact Kd.V_mono HO_102005.out (fun _ hk => ⟨hk.1.1, ⟨hk.2, ⟨hk.1.2.1, ⟨hk.1.2.2.1, hk.1.2.2.2⟩⟩⟩⟩)), (by (with_reducible repeat (first | apply Kd.N_alloc | apply Kd.N_drewN | apply Kd.N_drew)); exact Kd.N_mono HO_4.out (fun _ hk => ⟨hk.1.1, ⟨hk.2, ⟨hk.1.2.1, hk.1.2.2⟩⟩⟩)), qz9_, qz22_, qz21_⟩)
                        ·
                         skip
                         refine goes_ Try.func91 (by kernel_rfl) rfl #[.int .i64 ((rd_T126 (rd_L5 y105 x5_1) x6_2).f2), .int .i64 4] (by rfl) rfl rfl qz3_ ?_
                         with_reducible refine (spec_l02Number.calls k2 ((rd_T126 (rd_L5 y105 x5_1) x6_2).f2) 4 t120 _ A23.out).mono ?_
                         rintro e w31 ⟨v121, rfl, ho0, hb⟩
                         refine ⟨_, rfl, ?_⟩
                         have n0_ := am_ (Kd.N_elder' qz15_ (Kd.R_base ho0) hb)
                         have n1_ := am_ (Kd.V_elder' qz16_ (Kd.R_base ho0) hb)
                         have n2_ := am_ (Kd.V_elder' qz17_ (Kd.R_base ho0) hb)
                         have n3_ := am_ (Kd.V_elder' qz18_ (Kd.R_base ho0) hb)
                         have n4_ := am_ (Kd.V_elder' qz19_ (Kd.R_base ho0) hb)
                         have n5_ := am_ (Kd.V_elder' qz20_ (Kd.R_base ho0) hb)
                         have n6_ := am_ (Kd.R_lower (Kd.R_newM (M := fun k_ => (w.heap.size ≤ k_)) ho0 (below_size qz21_) (fun k_ h_ => h_)) (below_size qz21_))
                         have n7_ := am_ (blk_below (g := gb101) (o := .cells #[.int .i64 a0_0, .int .i64 a0_1, .int .i64 a0_2, .slice A0_3 l0_3.length c0_3, .slice A0_4 l0_4.length c0_4, .slice A0_5 l0_5.length c0_5] 46 (0, 0)) qz9_ hb)
                         have n8_ := am_ (blk_below (g := gb116) (o := .cells #[.int .i64 ((rd_T126 (rd_L5 y105 x5_1) x6_2).f0), .int .i64 ((rd_T126 (rd_L5 y105 x5_1) x6_2).f1), .int .i64 ((rd_T126 (rd_L5 y105 x5_1) x6_2).f2)] 126 (0, 0)) qz22_ hb)
                         have n9_ := am_ (below_step qz21_ hb)
                         clear HO_4
                         clear HO_102003
                         clear HO_102004
                         clear HO_102005
                         clear HL113_0
                         clear HL114_0
                         clear BK101
                         clear BK116
                         clear HB
                         have HO_4 := n0_
                         have HO_102003 := n1_
                         have HO_102004 := n2_
                         have HO_102005 := n3_
                         have HL113_0 := n4_
                         have HL114_0 := n5_
                         have HO122 := n6_
                         have BK101 := n7_
                         have BK116 := n8_
                         have HB := n9_
                         clear n0_ n1_ n2_ n3_ n4_ n5_ n6_ n7_ n8_ n9_
                         (try clear hb)
                         (try clear hb2)
                         (try clear hk)
                         (try clear hi)
                         (try clear ho0)
                         refine hK.out _ _ ⟨(blk_cell BK116.out 0).trans rfl, (blk_cell BK116.out 1).trans rfl, (blk_cell BK116.out 2).trans rfl⟩ (fun hHeld => ?_)
                         clear hK K
                         refine norm_ (a' := ?_) ?_ ?_
                         rotate_left
                         ·
                          show Act.put _ (some 67) _ = _
                          exact ap_
                         exact norm_ qz23_ (hJ11 (v121) _ ⟨hHeld, (by (with_reducible repeat (first | apply Kd.V_alloc | apply Kd.V_drewN | apply Kd.V_drew)); exact Kd.V_mono HL113_0.out (fun _ hk => ⟨hk.1.1, ⟨hk.2, ⟨hk.1.2.1, ⟨hk.1.2.2.1, hk.1.2.2.2⟩⟩⟩⟩)), (by (with_reducible repeat (first | apply Kd.V_alloc | apply Kd.V_drewN | apply Kd.V_drew)); exact Kd.V_mono HL114_0.out (fun _ hk => ⟨hk.1.1, ⟨hk.2, ⟨hk.1.2.1, ⟨hk.1.2.2.1, hk.1.2.2.2⟩⟩⟩⟩)), (by (with_reducible repeat (first | apply Kd.R_alloc | apply Kd.R_drewN | apply Kd.R_drew)); exact Kd.R_mono HO122.out (fun _ hk => hk.1)), (by (with_reducible repeat (first | apply Kd.V_alloc | apply Kd.V_drewN | apply Kd.V_drew)); exact Kd.V_mono HO_102003.out (fun _ hk => ⟨hk.1.1, ⟨hk.2, ⟨hk.1.2.1, ⟨hk.1.2.2.1, hk.1.2.2.2⟩⟩⟩⟩)), (by (with_reducible repeat (first | apply Kd.V_alloc | apply Kd.V_drewN | apply Kd.V_drew)); exact Kd.V_mono HO_102004.out (fun _ hk => ⟨hk.1.1, ⟨hk.2, ⟨hk.1.2.1, ⟨hk.1.2.2.1, hk.1.2.2.2⟩⟩⟩⟩)), (by (with_reducible repeat (first | apply Kd.V_alloc | apply Kd.V_drewN | apply Kd.V_drew)); exact Kd.V_mono HO_102005.out (fun _ hk => ⟨hk.1.1, ⟨hk.2, ⟨hk.1.2.1, ⟨hk.1.2.2.1, hk.1.2.2.2⟩⟩⟩⟩)), (by (with_reducible repeat (first | apply Kd.N_alloc | apply Kd.N_drewN | apply Kd.N_drew)); exact Kd.N_mono HO_4.out (fun _ hk => ⟨hk.1.1, ⟨hk.2, ⟨hk.1.2.1, hk.1.2.2⟩⟩⟩)), qz9_, qz22_, qz21_⟩)
                       ·
                        skip
                        rintro v121 w32 ⟨hS_, h0_, h1_, h2_, h3_, h4_, h5_, h6_, h7_, h8_, h9_⟩
                        have n0_ : Aside0 (Kd.V k126 126 w32 w.heap.size (fun k_ => ((P0_3_ k_ ∨ P0_4_ k_ ∨ P0_5_ k_) ∨ w.heap.size ≤ k_) ∧ some k_ ≠ (v121 : Value).ownBlock ∧ some k_ ≠ (.slice (some ad109) y105.length co16 : Value).ownBlock ∧ k_ ≠ gb101 ∧ k_ ≠ gb116) (.slice (some ad115) (rd_L5 y105 x5_1).length c113_0) (rd_L5 y105 x5_1)) := ⟨h0_⟩
                        have n1_ : Aside0 (Kd.V k126 126 w32 w.heap.size (fun k_ => ((P0_3_ k_ ∨ P0_4_ k_ ∨ P0_5_ k_) ∨ w.heap.size ≤ k_) ∧ some k_ ≠ (v121 : Value).ownBlock ∧ some k_ ≠ (.slice (some ad109) y105.length co16 : Value).ownBlock ∧ k_ ≠ gb101 ∧ k_ ≠ gb116) (.slice (some ad115) (rd_L5 y105 x5_1).length c113_0) (rd_L5 y105 x5_1)) := ⟨h1_⟩
                        have n2_ : Aside0 (Kd.R (Kd.int .u8) 5 w32 w.heap.size (fun k_ => (w.heap.size ≤ k_)) v121 t120) := ⟨h2_⟩
                        have n3_ : Aside0 (Kd.V k126 126 w32 w.heap.size (fun k_ => ((P0_3_ k_ ∨ P0_4_ k_ ∨ P0_5_ k_) ∨ w.heap.size ≤ k_) ∧ some k_ ≠ (v121 : Value).ownBlock ∧ some k_ ≠ (.slice (some ad109) y105.length co16 : Value).ownBlock ∧ k_ ≠ gb101 ∧ k_ ≠ gb116) (.slice A0_3 l0_3.length c0_3) l0_3) := ⟨h3_⟩
                        have n4_ : Aside0 (Kd.V k126 126 w32 w.heap.size (fun k_ => ((P0_3_ k_ ∨ P0_4_ k_ ∨ P0_5_ k_) ∨ w.heap.size ≤ k_) ∧ some k_ ≠ (v121 : Value).ownBlock ∧ some k_ ≠ (.slice (some ad109) y105.length co16 : Value).ownBlock ∧ k_ ≠ gb101 ∧ k_ ≠ gb116) (.slice A0_4 l0_4.length c0_4) l0_4) := ⟨h4_⟩
                        have n5_ : Aside0 (Kd.V k126 126 w32 w.heap.size (fun k_ => ((P0_3_ k_ ∨ P0_4_ k_ ∨ P0_5_ k_) ∨ w.heap.size ≤ k_) ∧ some k_ ≠ (v121 : Value).ownBlock ∧ some k_ ≠ (.slice (some ad109) y105.length co16 : Value).ownBlock ∧ k_ ≠ gb101 ∧ k_ ≠ gb116) (.slice A0_5 l0_5.length c0_5) l0_5) := ⟨h5_⟩
                        have n6_ : Aside0 (Kd.N (Kd.slice 126 k126) 44 w32 w.heap.size (fun k_ => ((P0_3_ k_ ∨ P0_4_ k_ ∨ P0_5_ k_) ∨ w.heap.size ≤ k_) ∧ some k_ ≠ (v121 : Value).ownBlock ∧ k_ ≠ gb101 ∧ k_ ≠ gb116) (.slice (some ad109) y105.length co16) y105) := ⟨h6_⟩
                        have n7_ : Aside0 (w32.heap[gb101]? = some (.cells #[.int .i64 a0_0, .int .i64 a0_1, .int .i64 a0_2, .slice A0_3 l0_3.length c0_3, .slice A0_4 l0_4.length c0_4, .slice A0_5 l0_5.length c0_5] 46 (0, 0))) := ⟨h7_⟩
                        have n8_ : Aside0 (w32.heap[gb116]? = some (.cells #[.int .i64 ((rd_T126 (rd_L5 y105 x5_1) x6_2).f0), .int .i64 ((rd_T126 (rd_L5 y105 x5_1) x6_2).f1), .int .i64 ((rd_T126 (rd_L5 y105 x5_1) x6_2).f2)] 126 (0, 0))) := ⟨h8_⟩
                        have n9_ : Aside0 (Below w.heap.size w w32) := ⟨h9_⟩
                        clear HO_4
                        clear HO_102003
                        clear HO_102004
                        clear HO_102005
                        clear HL113_0
                        clear HL114_0
                        clear BK101
                        clear BK116
                        clear HB
                        clear h0_ h1_ h2_ h3_ h4_ h5_ h6_ h7_ h8_ h9_
                        have HL113_0 := n0_
                        have HL114_0 := n1_
                        have HO122 := n2_
                        have HO_102003 := n3_
                        have HO_102004 := n4_
                        have HO_102005 := n5_
                        have HO_4 := n6_
                        have BK101 := n7_
                        have BK116 := n8_
                        have HB := n9_
                        clear n0_ n1_ n2_ n3_ n4_ n5_ n6_ n7_ n8_ n9_
                        have hHeld : w32.cell? ⟨gb116, 0, none⟩ = some (.int .i64 ((rd_T126 (rd_L5 y105 x5_1) x6_2).f0)) ∧ w32.cell? ⟨gb116, 1, none⟩ = some (.int .i64 ((rd_T126 (rd_L5 y105 x5_1) x6_2).f1)) ∧ w32.cell? ⟨gb116, 2, none⟩ = some (.int .i64 ((rd_T126 (rd_L5 y105 x5_1) x6_2).f2)) := hS_
                        refine norm_ (a' := ?_) ?_ ?_
                        rotate_left
                        ·
                         simp only [putAll, Act.put, List.setIfInBounds_toArray, List.set_cons_zero, List.set_cons_succ]
                         rfl
                        refine two_ (i := 7) (j := 12) (Ni := some 63) (Nj := some 68) #[true, true, true, true, true, true, true, true, false, true, true, true, false, false, false, false] #[true, true, true, true, true, true, true, false, false, true, true, true, true, false, false, false] rfl rfl rfl rfl (two_of HT_.out (by kernel_rfl)) (by decide) (by decide) (fun K hK => ?_) (fun K hK => ?_)
                        ·
                         skip
                         refine Kd.R_lit_step (Kd.int .u8) _ 5 ?hg (N := 63) ?hd (xs := ([((rd_T126 (rd_L5 y105 x5_1) x6_2).f0) % 256, ((rd_T126 (rd_L5 y105 x5_1) x6_2).f1) % 256] : List Int)) (inner := [.int .u8 (((rd_T126 (rd_L5 y105 x5_1) x6_2).f0) % 256), .int .u8 (((rd_T126 (rd_L5 y105 x5_1) x6_2).f1) % 256)]) (ok := fun _ => True) (okp := fun _ => True) ?hr ?hp (fun _ hk => hk) trivial (Below.refl _ _) (Nat.le_refl _) (by simp) ?_; (case hd => rfl); (case hg => rfl); (case hr => first | (go_simp; done) | (go_simp; rfl)); (case hp => exact (Reps.one (show Kd.M (Kd.int .u8) _ _ _ (((rd_T126 (rd_L5 y105 x5_1) x6_2).f0) % 256) [.int .u8 (((rd_T126 (rd_L5 y105 x5_1) x6_2).f0) % 256)] from rfl) (Reps.one (show Kd.M (Kd.int .u8) _ _ _ (((rd_T126 (rd_L5 y105 x5_1) x6_2).f1) % 256) [.int .u8 (((rd_T126 (rd_L5 y105 x5_1) x6_2).f1) % 256)] from rfl) (Reps.none _ _))))
                         intro v118 w33 ho34 hb hg_ hnew_
                         clear hg_ hnew_
                         (first | rw [← Ny117.out] at ho34 | (simp only [Int.reduceToNat] at ho34; rw [← Ny117.out] at ho34))
                         have n0_ := am_ (Kd.N_elder' qz15_ (Kd.R_base ho34) hb)
                         have n1_ := am_ (Kd.V_elder' qz16_ (Kd.R_base ho34) hb)
                         have n2_ := am_ (Kd.V_elder' qz17_ (Kd.R_base ho34) hb)
                         have n3_ := am_ (Kd.V_elder' qz18_ (Kd.R_base ho34) hb)
                         have n4_ := am_ (Kd.V_elder' qz19_ (Kd.R_base ho34) hb)
                         have n5_ := am_ (Kd.V_elder' qz20_ (Kd.R_base ho34) hb)
                         have n6_ := am_ (Kd.R_elder' qz24_ (Kd.R_base ho34) hb)
                         have n7_ := am_ (Kd.R_lower (Kd.R_new' (Kd.R_newM (M := fun k_ => (w.heap.size ≤ k_)) ho34 (below_size qz21_) (fun k_ h_ => h_)) (Kd.R_lt qz24_)) (below_size qz21_))
                         have n8_ := am_ (blk_below (g := gb101) (o := .cells #[.int .i64 a0_0, .int .i64 a0_1, .int .i64 a0_2, .slice A0_3 l0_3.length c0_3, .slice A0_4 l0_4.length c0_4, .slice A0_5 l0_5.length c0_5] 46 (0, 0)) qz9_ hb)
                         have n9_ := am_ (blk_below (g := gb116) (o := .cells #[.int .i64 ((rd_T126 (rd_L5 y105 x5_1) x6_2).f0), .int .i64 ((rd_T126 (rd_L5 y105 x5_1) x6_2).f1), .int .i64 ((rd_T126 (rd_L5 y105 x5_1) x6_2).f2)] 126 (0, 0)) qz22_ hb)
                         have n10_ := am_ (below_step qz21_ hb)
                         clear HO_4
                         clear HO_102003
                         clear HO_102004
                         clear HO_102005
                         clear HL113_0
                         clear HL114_0
                         clear HO122
                         clear BK101
                         clear BK116
                         clear HB
                         have HO_4 := n0_
                         have HO_102003 := n1_
                         have HO_102004 := n2_
                         have HO_102005 := n3_
                         have HL113_0 := n4_
                         have HL114_0 := n5_
                         have HO122 := n6_
                         have HO119 := n7_
                         have BK101 := n8_
                         have BK116 := n9_
                         have HB := n10_
                         clear n0_ n1_ n2_ n3_ n4_ n5_ n6_ n7_ n8_ n9_ n10_
                         clear hb ho34
                         refine hK.out _ _ ⟨(blk_cell BK116.out 0).trans rfl, (blk_cell BK116.out 1).trans rfl, (blk_cell BK116.out 2).trans rfl⟩ (fun hHeld => ?_)
                         clear hK K
                         refine norm_ (a' := ?_) ?_ ?_
                         rotate_left
                         ·
                          show Act.put _ (some 63) _ = _
                          exact ap_
                         exact norm_ qz23_ (hJ7_11 (v118, v121) _ ⟨hHeld, (by (with_reducible repeat (first | apply Kd.V_alloc | apply Kd.V_drewN | apply Kd.V_drew)); exact Kd.V_mono HL113_0.out (fun _ hk => ⟨hk.1.1, ⟨hk.2, ⟨hk.1.2.1, ⟨hk.1.2.2.1, ⟨hk.1.2.2.2.1, hk.1.2.2.2.2⟩⟩⟩⟩⟩)), (by (with_reducible repeat (first | apply Kd.V_alloc | apply Kd.V_drewN | apply Kd.V_drew)); exact Kd.V_mono HL114_0.out (fun _ hk => ⟨hk.1.1, ⟨hk.2, ⟨hk.1.2.1, ⟨hk.1.2.2.1, ⟨hk.1.2.2.2.1, hk.1.2.2.2.2⟩⟩⟩⟩⟩)), (by (with_reducible repeat (first | apply Kd.R_alloc | apply Kd.R_drewN | apply Kd.R_drew)); exact Kd.R_mono HO119.out (fun _ hk => ⟨hk.1.1, hk.2⟩)), qz24_, (by (with_reducible repeat (first | apply Kd.V_alloc | apply Kd.V_drewN | apply Kd.V_drew)); exact Kd.V_mono HO_102003.out (fun _ hk => ⟨hk.1.1, ⟨hk.2, ⟨hk.1.2.1, ⟨hk.1.2.2.1, ⟨hk.1.2.2.2.1, hk.1.2.2.2.2⟩⟩⟩⟩⟩)), (by (with_reducible repeat (first | apply Kd.V_alloc | apply Kd.V_drewN | apply Kd.V_drew)); exact Kd.V_mono HO_102004.out (fun _ hk => ⟨hk.1.1, ⟨hk.2, ⟨hk.1.2.1, ⟨hk.1.2.2.1, ⟨hk.1.2.2.2.1, hk.1.2.2.2.2⟩⟩⟩⟩⟩)), (by (with_reducible repeat (first | apply Kd.V_alloc | apply Kd.V_drewN | apply Kd.V_drew)); exact Kd.V_mono HO_102005.out (fun _ hk => ⟨hk.1.1, ⟨hk.2, ⟨hk.1.2.1, ⟨hk.1.2.2.1, ⟨hk.1.2.2.2.1, hk.1.2.2.2.2⟩⟩⟩⟩⟩)), (by (with_reducible repeat (first | apply Kd.N_alloc | apply Kd.N_drewN | apply Kd.N_drew)); exact Kd.N_mono HO_4.out (fun _ hk => ⟨hk.1.1, ⟨hk.2, ⟨hk.1.2.1, ⟨hk.1.2.2.1, hk.1.2.2.2⟩⟩⟩⟩)), qz9_, qz22_, qz21_⟩)
                        ·
                         skip
                         have hcv33 := own_string (P := Try.prog) Try.underlying22 Try.underlying5 Try.underlying9 (Kd.own_of_R HO122.out)
                         refine value_ (w1 := ?_) (v := ?_) (by rfl) rfl ?_ ?_
                         rotate_left 2
                         ·
                          go_simp
                          constructor
                          ·
                           rfl
                          ·
                           rfl
                         clear hcv33
                         refine hK.out _ _ ⟨(blk_cell BK116.out 0).trans rfl, (blk_cell BK116.out 1).trans rfl, (blk_cell BK116.out 2).trans rfl⟩ (fun hHeld => ?_)
                         clear hK K
                         refine norm_ (a' := ?_) ?_ ?_
                         rotate_left
                         ·
                          show Act.put _ (some 68) _ = _
                          exact ap_
                         exact norm_ qz23_ (hJ11_12 (v121) _ ⟨hHeld, qz19_, qz20_, qz24_, qz16_, qz17_, qz18_, qz15_, qz9_, qz22_, qz21_⟩)
                      ·
                       skip
                       rintro v118 w33 ⟨hS_, h0_, h1_, h2_, h3_, h4_, h5_, h6_, h7_, h8_, h9_⟩
                       have n0_ : Aside0 (Kd.V k126 126 w33 w.heap.size (fun k_ => ((P0_3_ k_ ∨ P0_4_ k_ ∨ P0_5_ k_) ∨ w.heap.size ≤ k_) ∧ some k_ ≠ (v118 : Value).ownBlock ∧ some k_ ≠ (.slice (some ad109) y105.length co16 : Value).ownBlock ∧ k_ ≠ gb101 ∧ k_ ≠ gb116) (.slice (some ad115) (rd_L5 y105 x5_1).length c113_0) (rd_L5 y105 x5_1)) := ⟨h0_⟩
                       have n1_ : Aside0 (Kd.V k126 126 w33 w.heap.size (fun k_ => ((P0_3_ k_ ∨ P0_4_ k_ ∨ P0_5_ k_) ∨ w.heap.size ≤ k_) ∧ some k_ ≠ (v118 : Value).ownBlock ∧ some k_ ≠ (.slice (some ad109) y105.length co16 : Value).ownBlock ∧ k_ ≠ gb101 ∧ k_ ≠ gb116) (.slice (some ad115) (rd_L5 y105 x5_1).length c113_0) (rd_L5 y105 x5_1)) := ⟨h1_⟩
                       have n2_ : Aside0 (Kd.R (Kd.int .u8) 5 w33 w.heap.size (fun k_ => (w.heap.size ≤ k_)) v118 y117) := ⟨h2_⟩
                       have n3_ : Aside0 (Kd.V k126 126 w33 w.heap.size (fun k_ => ((P0_3_ k_ ∨ P0_4_ k_ ∨ P0_5_ k_) ∨ w.heap.size ≤ k_) ∧ some k_ ≠ (v118 : Value).ownBlock ∧ some k_ ≠ (.slice (some ad109) y105.length co16 : Value).ownBlock ∧ k_ ≠ gb101 ∧ k_ ≠ gb116) (.slice A0_3 l0_3.length c0_3) l0_3) := ⟨h3_⟩
                       have n4_ : Aside0 (Kd.V k126 126 w33 w.heap.size (fun k_ => ((P0_3_ k_ ∨ P0_4_ k_ ∨ P0_5_ k_) ∨ w.heap.size ≤ k_) ∧ some k_ ≠ (v118 : Value).ownBlock ∧ some k_ ≠ (.slice (some ad109) y105.length co16 : Value).ownBlock ∧ k_ ≠ gb101 ∧ k_ ≠ gb116) (.slice A0_4 l0_4.length c0_4) l0_4) := ⟨h4_⟩
                       have n5_ : Aside0 (Kd.V k126 126 w33 w.heap.size (fun k_ => ((P0_3_ k_ ∨ P0_4_ k_ ∨ P0_5_ k_) ∨ w.heap.size ≤ k_) ∧ some k_ ≠ (v118 : Value).ownBlock ∧ some k_ ≠ (.slice (some ad109) y105.length co16 : Value).ownBlock ∧ k_ ≠ gb101 ∧ k_ ≠ gb116) (.slice A0_5 l0_5.length c0_5) l0_5) := ⟨h5_⟩
                       have n6_ : Aside0 (Kd.N (Kd.slice 126 k126) 44 w33 w.heap.size (fun k_ => ((P0_3_ k_ ∨ P0_4_ k_ ∨ P0_5_ k_) ∨ w.heap.size ≤ k_) ∧ some k_ ≠ (v118 : Value).ownBlock ∧ k_ ≠ gb101 ∧ k_ ≠ gb116) (.slice (some ad109) y105.length co16) y105) := ⟨h6_⟩
                       have n7_ : Aside0 (w33.heap[gb101]? = some (.cells #[.int .i64 a0_0, .int .i64 a0_1, .int .i64 a0_2, .slice A0_3 l0_3.length c0_3, .slice A0_4 l0_4.length c0_4, .slice A0_5 l0_5.length c0_5] 46 (0, 0))) := ⟨h7_⟩
                       have n8_ : Aside0 (w33.heap[gb116]? = some (.cells #[.int .i64 ((rd_T126 (rd_L5 y105 x5_1) x6_2).f0), .int .i64 ((rd_T126 (rd_L5 y105 x5_1) x6_2).f1), .int .i64 ((rd_T126 (rd_L5 y105 x5_1) x6_2).f2)] 126 (0, 0))) := ⟨h8_⟩
                       have n9_ : Aside0 (Below w.heap.size w w33) := ⟨h9_⟩
                       clear HO_4
                       clear HO_102003
                       clear HO_102004
                       clear HO_102005
                       clear HL113_0
                       clear HL114_0
                       clear BK101
                       clear BK116
                       clear HB
                       clear h0_ h1_ h2_ h3_ h4_ h5_ h6_ h7_ h8_ h9_
                       have HL113_0 := n0_
                       have HL114_0 := n1_
                       have HO119 := n2_
                       have HO_102003 := n3_
                       have HO_102004 := n4_
                       have HO_102005 := n5_
                       have HO_4 := n6_
                       have BK101 := n7_
                       have BK116 := n8_
                       have HB := n9_
                       clear n0_ n1_ n2_ n3_ n4_ n5_ n6_ n7_ n8_ n9_
                       have hHeld : w33.cell? ⟨gb116, 0, none⟩ = some (.int .i64 ((rd_T126 (rd_L5 y105 x5_1) x6_2).f0)) ∧ w33.cell? ⟨gb116, 1, none⟩ = some (.int .i64 ((rd_T126 (rd_L5 y105 x5_1) x6_2).f1)) ∧ w33.cell? ⟨gb116, 2, none⟩ = some (.int .i64 ((rd_T126 (rd_L5 y105 x5_1) x6_2).f2)) := hS_
                       refine norm_ (a' := ?_) ?_ ?_
                       rotate_left
                       ·
                        simp only [putAll, Act.put, List.setIfInBounds_toArray, List.set_cons_zero, List.set_cons_succ]
                        rfl
                       refine two_ (i := 8) (j := 11) (Ni := some 64) (Nj := some 67) #[true, true, true, true, true, true, true, true, true, true, true, false, false, false, false, false] #[true, true, true, true, true, true, true, true, false, true, true, true, false, false, false, false] rfl rfl rfl rfl (two_of HT_.out (by kernel_rfl)) (by decide) (by decide) (fun K hK => ?_) (fun K hK => ?_)
                       ·
                        skip
                        have hcv34 := own_string (P := Try.prog) Try.underlying22 Try.underlying5 Try.underlying9 (Kd.own_of_R HO119.out)
                        refine value_ (w1 := ?_) (v := ?_) (by rfl) rfl ?_ ?_
                        rotate_left 2
                        ·
                         go_simp
                         constructor
                         ·
                          rfl
                         ·
                          rfl
                        clear hcv34
                        refine hK.out _ _ ⟨(blk_cell BK116.out 0).trans rfl, (blk_cell BK116.out 1).trans rfl, (blk_cell BK116.out 2).trans rfl⟩ (fun hHeld => ?_)
                        clear hK K
                        refine norm_ (a' := ?_) ?_ ?_
                        rotate_left
                        ·
                         show Act.put _ (some 64) _ = _
                         exact ap_
                        exact norm_ qz23_ (hJ7_8 (v118) _ ⟨hHeld, qz19_, qz20_, qz25_, qz16_, qz17_, qz18_, qz15_, qz9_, qz22_, qz21_⟩)
                       ·
                        skip
                        refine goes_ Try.func91 (by kernel_rfl) rfl #[.int .i64 ((rd_T126 (rd_L5 y105 x5_1) x6_2).f2), .int .i64 4] (by rfl) rfl rfl qz3_ ?_
                        with_reducible refine (spec_l02Number.calls k2 ((rd_T126 (rd_L5 y105 x5_1) x6_2).f2) 4 t120 _ A23.out).mono ?_
                        rintro e w34 ⟨v121, rfl, ho0, hb⟩
                        refine ⟨_, rfl, ?_⟩
                        have n0_ := am_ (Kd.N_elder' qz15_ (Kd.R_base ho0) hb)
                        have n1_ := am_ (Kd.V_elder' qz16_ (Kd.R_base ho0) hb)
                        have n2_ := am_ (Kd.V_elder' qz17_ (Kd.R_base ho0) hb)
                        have n3_ := am_ (Kd.V_elder' qz18_ (Kd.R_base ho0) hb)
                        have n4_ := am_ (Kd.V_elder' qz19_ (Kd.R_base ho0) hb)
                        have n5_ := am_ (Kd.V_elder' qz20_ (Kd.R_base ho0) hb)
                        have n6_ := am_ (Kd.R_elder' qz25_ (Kd.R_base ho0) hb)
                        have n7_ := am_ (Kd.R_lower (Kd.R_new' (Kd.R_newM (M := fun k_ => (w.heap.size ≤ k_)) ho0 (below_size qz21_) (fun k_ h_ => h_)) (Kd.R_lt qz25_)) (below_size qz21_))
                        have n8_ := am_ (blk_below (g := gb101) (o := .cells #[.int .i64 a0_0, .int .i64 a0_1, .int .i64 a0_2, .slice A0_3 l0_3.length c0_3, .slice A0_4 l0_4.length c0_4, .slice A0_5 l0_5.length c0_5] 46 (0, 0)) qz9_ hb)
                        have n9_ := am_ (blk_below (g := gb116) (o := .cells #[.int .i64 ((rd_T126 (rd_L5 y105 x5_1) x6_2).f0), .int .i64 ((rd_T126 (rd_L5 y105 x5_1) x6_2).f1), .int .i64 ((rd_T126 (rd_L5 y105 x5_1) x6_2).f2)] 126 (0, 0)) qz22_ hb)
                        have n10_ := am_ (below_step qz21_ hb)
                        clear HO_4
                        clear HO_102003
                        clear HO_102004
                        clear HO_102005
                        clear HL113_0
                        clear HL114_0
                        clear HO119
                        clear BK101
                        clear BK116
                        clear HB
                        have HO_4 := n0_
                        have HO_102003 := n1_
                        have HO_102004 := n2_
                        have HO_102005 := n3_
                        have HL113_0 := n4_
                        have HL114_0 := n5_
                        have HO119 := n6_
                        have HO122 := n7_
                        have BK101 := n8_
                        have BK116 := n9_
                        have HB := n10_
                        clear n0_ n1_ n2_ n3_ n4_ n5_ n6_ n7_ n8_ n9_ n10_
                        (try clear hb)
                        (try clear hb2)
                        (try clear hk)
                        (try clear hi)
                        (try clear ho0)
                        refine hK.out _ _ ⟨(blk_cell BK116.out 0).trans rfl, (blk_cell BK116.out 1).trans rfl, (blk_cell BK116.out 2).trans rfl⟩ (fun hHeld => ?_)
                        clear hK K
                        refine norm_ (a' := ?_) ?_ ?_
                        rotate_left
                        ·
                         show Act.put _ (some 67) _ = _
                         exact ap_
                        exact norm_ qz23_ (hJ7_11 (v118, v121) _ ⟨hHeld, (by (with_reducible repeat (first | apply Kd.V_alloc | apply Kd.V_drewN | apply Kd.V_drew)); exact Kd.V_mono HL113_0.out (fun _ hk => ⟨hk.1.1, ⟨hk.1.2.1, ⟨hk.2, ⟨hk.1.2.2.1, ⟨hk.1.2.2.2.1, hk.1.2.2.2.2⟩⟩⟩⟩⟩)), (by (with_reducible repeat (first | apply Kd.V_alloc | apply Kd.V_drewN | apply Kd.V_drew)); exact Kd.V_mono HL114_0.out (fun _ hk => ⟨hk.1.1, ⟨hk.1.2.1, ⟨hk.2, ⟨hk.1.2.2.1, ⟨hk.1.2.2.2.1, hk.1.2.2.2.2⟩⟩⟩⟩⟩)), qz25_, (by (with_reducible repeat (first | apply Kd.R_alloc | apply Kd.R_drewN | apply Kd.R_drew)); exact Kd.R_mono HO122.out (fun _ hk => ⟨hk.1.1, hk.2⟩)), (by (with_reducible repeat (first | apply Kd.V_alloc | apply Kd.V_drewN | apply Kd.V_drew)); exact Kd.V_mono HO_102003.out (fun _ hk => ⟨hk.1.1, ⟨hk.1.2.1, ⟨hk.2, ⟨hk.1.2.2.1, ⟨hk.1.2.2.2.1, hk.1.2.2.2.2⟩⟩⟩⟩⟩)), (by (with_reducible repeat (first | apply Kd.V_alloc | apply Kd.V_drewN | apply Kd.V_drew)); exact Kd.V_mono HO_102004.out (fun _ hk => ⟨hk.1.1, ⟨hk.1.2.1, ⟨hk.2, ⟨hk.1.2.2.1, ⟨hk.1.2.2.2.1, hk.1.2.2.2.2⟩⟩⟩⟩⟩)), (by (with_reducible repeat (first | apply Kd.V_alloc | apply Kd.V_drewN | apply Kd.V_drew)); exact Kd.V_mono HO_102005.out (fun _ hk => ⟨hk.1.1, ⟨hk.1.2.1, ⟨hk.2, ⟨hk.1.2.2.1, ⟨hk.1.2.2.2.1, hk.1.2.2.2.2⟩⟩⟩⟩⟩)), (by (with_reducible repeat (first | apply Kd.N_alloc | apply Kd.N_drewN | apply Kd.N_drew)); exact Kd.N_mono HO_4.out (fun _ hk => ⟨hk.1.1, ⟨hk.1.2.1, ⟨hk.2, ⟨hk.1.2.2.1, hk.1.2.2.2⟩⟩⟩⟩)), qz9_, qz22_, qz21_⟩)
                     ·
                      skip
                      rintro v121 w33 ⟨hS_, h0_, h1_, h2_, h3_, h4_, h5_, h6_, h7_, h8_, h9_⟩
                      have n0_ : Aside0 (Kd.V k126 126 w33 w.heap.size (fun k_ => ((P0_3_ k_ ∨ P0_4_ k_ ∨ P0_5_ k_) ∨ w.heap.size ≤ k_) ∧ some k_ ≠ (v121 : Value).ownBlock ∧ some k_ ≠ (.slice (some ad109) y105.length co16 : Value).ownBlock ∧ k_ ≠ gb101 ∧ k_ ≠ gb116) (.slice (some ad115) (rd_L5 y105 x5_1).length c113_0) (rd_L5 y105 x5_1)) := ⟨h0_⟩
                      have n1_ : Aside0 (Kd.V k126 126 w33 w.heap.size (fun k_ => ((P0_3_ k_ ∨ P0_4_ k_ ∨ P0_5_ k_) ∨ w.heap.size ≤ k_) ∧ some k_ ≠ (v121 : Value).ownBlock ∧ some k_ ≠ (.slice (some ad109) y105.length co16 : Value).ownBlock ∧ k_ ≠ gb101 ∧ k_ ≠ gb116) (.slice (some ad115) (rd_L5 y105 x5_1).length c113_0) (rd_L5 y105 x5_1)) := ⟨h1_⟩
                      have n2_ : Aside0 (Kd.R (Kd.int .u8) 5 w33 w.heap.size (fun k_ => (w.heap.size ≤ k_)) v121 t120) := ⟨h2_⟩
                      have n3_ : Aside0 (Kd.V k126 126 w33 w.heap.size (fun k_ => ((P0_3_ k_ ∨ P0_4_ k_ ∨ P0_5_ k_) ∨ w.heap.size ≤ k_) ∧ some k_ ≠ (v121 : Value).ownBlock ∧ some k_ ≠ (.slice (some ad109) y105.length co16 : Value).ownBlock ∧ k_ ≠ gb101 ∧ k_ ≠ gb116) (.slice A0_3 l0_3.length c0_3) l0_3) := ⟨h3_⟩
                      have n4_ : Aside0 (Kd.V k126 126 w33 w.heap.size (fun k_ => ((P0_3_ k_ ∨ P0_4_ k_ ∨ P0_5_ k_) ∨ w.heap.size ≤ k_) ∧ some k_ ≠ (v121 : Value).ownBlock ∧ some k_ ≠ (.slice (some ad109) y105.length co16 : Value).ownBlock ∧ k_ ≠ gb101 ∧ k_ ≠ gb116) (.slice A0_4 l0_4.length c0_4) l0_4) := ⟨h4_⟩
                      have n5_ : Aside0 (Kd.V k126 126 w33 w.heap.size (fun k_ => ((P0_3_ k_ ∨ P0_4_ k_ ∨ P0_5_ k_) ∨ w.heap.size ≤ k_) ∧ some k_ ≠ (v121 : Value).ownBlock ∧ some k_ ≠ (.slice (some ad109) y105.length co16 : Value).ownBlock ∧ k_ ≠ gb101 ∧ k_ ≠ gb116) (.slice A0_5 l0_5.length c0_5) l0_5) := ⟨h5_⟩
                      have n6_ : Aside0 (Kd.N (Kd.slice 126 k126) 44 w33 w.heap.size (fun k_ => ((P0_3_ k_ ∨ P0_4_ k_ ∨ P0_5_ k_) ∨ w.heap.size ≤ k_) ∧ some k_ ≠ (v121 : Value).ownBlock ∧ k_ ≠ gb101 ∧ k_ ≠ gb116) (.slice (some ad109) y105.length co16) y105) := ⟨h6_⟩
                      have n7_ : Aside0 (w33.heap[gb101]? = some (.cells #[.int .i64 a0_0, .int .i64 a0_1, .int .i64 a0_2, .slice A0_3 l0_3.length c0_3, .slice A0_4 l0_4.length c0_4, .slice A0_5 l0_5.length c0_5] 46 (0, 0))) := ⟨h7_⟩
                      have n8_ : Aside0 (w33.heap[gb116]? = some (.cells #[.int .i64 ((rd_T126 (rd_L5 y105 x5_1) x6_2).f0), .int .i64 ((rd_T126 (rd_L5 y105 x5_1) x6_2).f1), .int .i64 ((rd_T126 (rd_L5 y105 x5_1) x6_2).f2)] 126 (0, 0))) := ⟨h8_⟩
                      have n9_ : Aside0 (Below w.heap.size w w33) := ⟨h9_⟩
                      clear HO_4
                      clear HO_102003
                      clear HO_102004
                      clear HO_102005
                      clear HL113_0
                      clear HL114_0
                      clear BK101
                      clear BK116
                      clear HB
                      clear h0_ h1_ h2_ h3_ h4_ h5_ h6_ h7_ h8_ h9_
                      have HL113_0 := n0_
                      have HL114_0 := n1_
                      have HO122 := n2_
                      have HO_102003 := n3_
                      have HO_102004 := n4_
                      have HO_102005 := n5_
                      have HO_4 := n6_
                      have BK101 := n7_
                      have BK116 := n8_
                      have HB := n9_
                      clear n0_ n1_ n2_ n3_ n4_ n5_ n6_ n7_ n8_ n9_
                      have hHeld : w33.cell? ⟨gb116, 0, none⟩ = some (.int .i64 ((rd_T126 (rd_L5 y105 x5_1) x6_2).f0)) ∧ w33.cell? ⟨gb116, 1, none⟩ = some (.int .i64 ((rd_T126 (rd_L5 y105 x5_1) x6_2).f1)) ∧ w33.cell? ⟨gb116, 2, none⟩ = some (.int .i64 ((rd_T126 (rd_L5 y105 x5_1) x6_2).f2)) := hS_
                      refine norm_ (a' := ?_) ?_ ?_
                      rotate_left
                      ·
                       simp only [putAll, Act.put, List.setIfInBounds_toArray, List.set_cons_zero, List.set_cons_succ]
                       rfl
                      refine one_ (i := 7) (N := some 63) #[true, true, true, true, true, true, true, true, false, true, true, true, true, false, false, false] rfl rfl (one_of HT_.out (by kernel_rfl)) (by decide) (fun K hK => ?_)
                      refine Kd.R_lit_step (Kd.int .u8) _ 5 ?hg (N := 63) ?hd (xs := ([((rd_T126 (rd_L5 y105 x5_1) x6_2).f0) % 256, ((rd_T126 (rd_L5 y105 x5_1) x6_2).f1) % 256] : List Int)) (inner := [.int .u8 (((rd_T126 (rd_L5 y105 x5_1) x6_2).f0) % 256), .int .u8 (((rd_T126 (rd_L5 y105 x5_1) x6_2).f1) % 256)]) (ok := fun _ => True) (okp := fun _ => True) ?hr ?hp (fun _ hk => hk) trivial (Below.refl _ _) (Nat.le_refl _) (by simp) ?_; (case hd => rfl); (case hg => rfl); (case hr => first | (go_simp; done) | (go_simp; rfl)); (case hp => exact (Reps.one (show Kd.M (Kd.int .u8) _ _ _ (((rd_T126 (rd_L5 y105 x5_1) x6_2).f0) % 256) [.int .u8 (((rd_T126 (rd_L5 y105 x5_1) x6_2).f0) % 256)] from rfl) (Reps.one (show Kd.M (Kd.int .u8) _ _ _ (((rd_T126 (rd_L5 y105 x5_1) x6_2).f1) % 256) [.int .u8 (((rd_T126 (rd_L5 y105 x5_1) x6_2).f1) % 256)] from rfl) (Reps.none _ _))))
                      intro v118 w34 ho35 hb hg_ hnew_
                      clear hg_ hnew_
                      (first | rw [← Ny117.out] at ho35 | (simp only [Int.reduceToNat] at ho35; rw [← Ny117.out] at ho35))
                      have n0_ := am_ (Kd.N_elder' qz15_ (Kd.R_base ho35) hb)
                      have n1_ := am_ (Kd.V_elder' qz16_ (Kd.R_base ho35) hb)
                      have n2_ := am_ (Kd.V_elder' qz17_ (Kd.R_base ho35) hb)
                      have n3_ := am_ (Kd.V_elder' qz18_ (Kd.R_base ho35) hb)
                      have n4_ := am_ (Kd.V_elder' qz19_ (Kd.R_base ho35) hb)
                      have n5_ := am_ (Kd.V_elder' qz20_ (Kd.R_base ho35) hb)
                      have n6_ := am_ (Kd.R_elder' qz24_ (Kd.R_base ho35) hb)
                      have n7_ := am_ (Kd.R_lower (Kd.R_new' (Kd.R_newM (M := fun k_ => (w.heap.size ≤ k_)) ho35 (below_size qz21_) (fun k_ h_ => h_)) (Kd.R_lt qz24_)) (below_size qz21_))
                      have n8_ := am_ (blk_below (g := gb101) (o := .cells #[.int .i64 a0_0, .int .i64 a0_1, .int .i64 a0_2, .slice A0_3 l0_3.length c0_3, .slice A0_4 l0_4.length c0_4, .slice A0_5 l0_5.length c0_5] 46 (0, 0)) qz9_ hb)
                      have n9_ := am_ (blk_below (g := gb116) (o := .cells #[.int .i64 ((rd_T126 (rd_L5 y105 x5_1) x6_2).f0), .int .i64 ((rd_T126 (rd_L5 y105 x5_1) x6_2).f1), .int .i64 ((rd_T126 (rd_L5 y105 x5_1) x6_2).f2)] 126 (0, 0)) qz22_ hb)
                      have n10_ := am_ (below_step qz21_ hb)
                      clear HO_4
                      clear HO_102003
                      clear HO_102004
                      clear HO_102005
                      clear HL113_0
                      clear HL114_0
                      clear HO122
                      clear BK101
                      clear BK116
                      clear HB
                      have HO_4 := n0_
                      have HO_102003 := n1_
                      have HO_102004 := n2_
                      have HO_102005 := n3_
                      have HL113_0 := n4_
                      have HL114_0 := n5_
                      have HO122 := n6_
                      have HO119 := n7_
                      have BK101 := n8_
                      have BK116 := n9_
                      have HB := n10_
                      clear n0_ n1_ n2_ n3_ n4_ n5_ n6_ n7_ n8_ n9_ n10_
                      clear hb ho35
                      refine hK.out _ _ ⟨(blk_cell BK116.out 0).trans rfl, (blk_cell BK116.out 1).trans rfl, (blk_cell BK116.out 2).trans rfl⟩ (fun hHeld => ?_)
                      clear hK K
                      refine norm_ (a' := ?_) ?_ ?_
                      rotate_left
                      ·
                       show Act.put _ (some 63) _ = _
                       exact ap_
                      exact norm_ qz23_ (hJ7_11_12 (v118, v121) _ ⟨hHeld, (by (with_reducible repeat (first | apply Kd.V_alloc | apply Kd.V_drewN | apply Kd.V_drew)); exact Kd.V_mono HL113_0.out (fun _ hk => ⟨hk.1.1, ⟨hk.2, ⟨hk.1.2.1, ⟨hk.1.2.2.1, ⟨hk.1.2.2.2.1, hk.1.2.2.2.2⟩⟩⟩⟩⟩)), (by (with_reducible repeat (first | apply Kd.V_alloc | apply Kd.V_drewN | apply Kd.V_drew)); exact Kd.V_mono HL114_0.out (fun _ hk => ⟨hk.1.1, ⟨hk.2, ⟨hk.1.2.1, ⟨hk.1.2.2.1, ⟨hk.1.2.2.2.1, hk.1.2.2.2.2⟩⟩⟩⟩⟩)), (by (with_reducible repeat (first | apply Kd.R_alloc | apply Kd.R_drewN | apply Kd.R_drew)); exact Kd.R_mono HO119.out (fun _ hk => ⟨hk.1.1, hk.2⟩)), qz24_, (by (with_reducible repeat (first | apply Kd.V_alloc | apply Kd.V_drewN | apply Kd.V_drew)); exact Kd.V_mono HO_102003.out (fun _ hk => ⟨hk.1.1, ⟨hk.2, ⟨hk.1.2.1, ⟨hk.1.2.2.1, ⟨hk.1.2.2.2.1, hk.1.2.2.2.2⟩⟩⟩⟩⟩)), (by (with_reducible repeat (first | apply Kd.V_alloc | apply Kd.V_drewN | apply Kd.V_drew)); exact Kd.V_mono HO_102004.out (fun _ hk => ⟨hk.1.1, ⟨hk.2, ⟨hk.1.2.1, ⟨hk.1.2.2.1, ⟨hk.1.2.2.2.1, hk.1.2.2.2.2⟩⟩⟩⟩⟩)), (by (with_reducible repeat (first | apply Kd.V_alloc | apply Kd.V_drewN | apply Kd.V_drew)); exact Kd.V_mono HO_102005.out (fun _ hk => ⟨hk.1.1, ⟨hk.2, ⟨hk.1.2.1, ⟨hk.1.2.2.1, ⟨hk.1.2.2.2.1, hk.1.2.2.2.2⟩⟩⟩⟩⟩)), (by (with_reducible repeat (first | apply Kd.N_alloc | apply Kd.N_drewN | apply Kd.N_drew)); exact Kd.N_mono HO_4.out (fun _ hk => ⟨hk.1.1, ⟨hk.2, ⟨hk.1.2.1, ⟨hk.1.2.2.1, hk.1.2.2.2⟩⟩⟩⟩)), qz9_, qz22_, qz21_⟩)
                    ·
                     skip
                     rintro ⟨v118, v121⟩ w34 ⟨hS_, h0_, h1_, h2_, h3_, h4_, h5_, h6_, h7_, h8_, h9_, h10_⟩
                     have n0_ : Aside0 (Kd.V k126 126 w34 w.heap.size (fun k_ => ((P0_3_ k_ ∨ P0_4_ k_ ∨ P0_5_ k_) ∨ w.heap.size ≤ k_) ∧ some k_ ≠ (v118 : Value).ownBlock ∧ some k_ ≠ (v121 : Value).ownBlock ∧ some k_ ≠ (.slice (some ad109) y105.length co16 : Value).ownBlock ∧ k_ ≠ gb101 ∧ k_ ≠ gb116) (.slice (some ad115) (rd_L5 y105 x5_1).length c113_0) (rd_L5 y105 x5_1)) := ⟨h0_⟩
                     have n1_ : Aside0 (Kd.V k126 126 w34 w.heap.size (fun k_ => ((P0_3_ k_ ∨ P0_4_ k_ ∨ P0_5_ k_) ∨ w.heap.size ≤ k_) ∧ some k_ ≠ (v118 : Value).ownBlock ∧ some k_ ≠ (v121 : Value).ownBlock ∧ some k_ ≠ (.slice (some ad109) y105.length co16 : Value).ownBlock ∧ k_ ≠ gb101 ∧ k_ ≠ gb116) (.slice (some ad115) (rd_L5 y105 x5_1).length c113_0) (rd_L5 y105 x5_1)) := ⟨h1_⟩
                     have n2_ : Aside0 (Kd.R (Kd.int .u8) 5 w34 w.heap.size (fun k_ => (w.heap.size ≤ k_) ∧ some k_ ≠ (v121 : Value).ownBlock) v118 y117) := ⟨h2_⟩
                     have n3_ : Aside0 (Kd.R (Kd.int .u8) 5 w34 w.heap.size (fun k_ => (w.heap.size ≤ k_) ∧ some k_ ≠ (v118 : Value).ownBlock) v121 t120) := ⟨h3_⟩
                     have n4_ : Aside0 (Kd.V k126 126 w34 w.heap.size (fun k_ => ((P0_3_ k_ ∨ P0_4_ k_ ∨ P0_5_ k_) ∨ w.heap.size ≤ k_) ∧ some k_ ≠ (v118 : Value).ownBlock ∧ some k_ ≠ (v121 : Value).ownBlock ∧ some k_ ≠ (.slice (some ad109) y105.length co16 : Value).ownBlock ∧ k_ ≠ gb101 ∧ k_ ≠ gb116) (.slice A0_3 l0_3.length c0_3) l0_3) := ⟨h4_⟩
                     have n5_ : Aside0 (Kd.V k126 126 w34 w.heap.size (fun k_ => ((P0_3_ k_ ∨ P0_4_ k_ ∨ P0_5_ k_) ∨ w.heap.size ≤ k_) ∧ some k_ ≠ (v118 : Value).ownBlock ∧ some k_ ≠ (v121 : Value).ownBlock ∧ some k_ ≠ (.slice (some ad109) y105.length co16 : Value).ownBlock ∧ k_ ≠ gb101 ∧ k_ ≠ gb116) (.slice A0_4 l0_4.length c0_4) l0_4) := ⟨h5_⟩
                     have n6_ : Aside0 (Kd.V k126 126 w34 w.heap.size (fun k_ => ((P0_3_ k_ ∨ P0_4_ k_ ∨ P0_5_ k_) ∨ w.heap.size ≤ k_) ∧ some k_ ≠ (v118 : Value).ownBlock ∧ some k_ ≠ (v121 : Value).ownBlock ∧ some k_ ≠ (.slice (some ad109) y105.length co16 : Value).ownBlock ∧ k_ ≠ gb101 ∧ k_ ≠ gb116) (.slice A0_5 l0_5.length c0_5) l0_5) := ⟨h6_⟩
                     have n7_ : Aside0 (Kd.N (Kd.slice 126 k126) 44 w34 w.heap.size (fun k_ => ((P0_3_ k_ ∨ P0_4_ k_ ∨ P0_5_ k_) ∨ w.heap.size ≤ k_) ∧ some k_ ≠ (v118 : Value).ownBlock ∧ some k_ ≠ (v121 : Value).ownBlock ∧ k_ ≠ gb101 ∧ k_ ≠ gb116) (.slice (some ad109) y105.length co16) y105) := ⟨h7_⟩
                     have n8_ : Aside0 (w34.heap[gb101]? = some (.cells #[.int .i64 a0_0, .int .i64 a0_1, .int .i64 a0_2, .slice A0_3 l0_3.length c0_3, .slice A0_4 l0_4.length c0_4, .slice A0_5 l0_5.length c0_5] 46 (0, 0))) := ⟨h8_⟩
                     have n9_ : Aside0 (w34.heap[gb116]? = some (.cells #[.int .i64 ((rd_T126 (rd_L5 y105 x5_1) x6_2).f0), .int .i64 ((rd_T126 (rd_L5 y105 x5_1) x6_2).f1), .int .i64 ((rd_T126 (rd_L5 y105 x5_1) x6_2).f2)] 126 (0, 0))) := ⟨h9_⟩
                     have n10_ : Aside0 (Below w.heap.size w w34) := ⟨h10_⟩
                     clear HO_4
                     clear HO_102003
                     clear HO_102004
                     clear HO_102005
                     clear HL113_0
                     clear HL114_0
                     clear BK101
                     clear BK116
                     clear HB
                     clear h0_ h1_ h2_ h3_ h4_ h5_ h6_ h7_ h8_ h9_ h10_
                     have HL113_0 := n0_
                     have HL114_0 := n1_
                     have HO119 := n2_
                     have HO122 := n3_
                     have HO_102003 := n4_
                     have HO_102004 := n5_
                     have HO_102005 := n6_
                     have HO_4 := n7_
                     have BK101 := n8_
                     have BK116 := n9_
                     have HB := n10_
                     clear n0_ n1_ n2_ n3_ n4_ n5_ n6_ n7_ n8_ n9_ n10_
                     have hHeld : w34.cell? ⟨gb116, 0, none⟩ = some (.int .i64 ((rd_T126 (rd_L5 y105 x5_1) x6_2).f0)) ∧ w34.cell? ⟨gb116, 1, none⟩ = some (.int .i64 ((rd_T126 (rd_L5 y105 x5_1) x6_2).f1)) ∧ w34.cell? ⟨gb116, 2, none⟩ = some (.int .i64 ((rd_T126 (rd_L5 y105 x5_1) x6_2).f2)) := hS_
                     refine norm_ (a' := ?_) ?_ ?_
                     rotate_left
                     ·
                      simp only [putAll, Act.put, List.setIfInBounds_toArray, List.set_cons_zero, List.set_cons_succ]
                      rfl
                     refine two_ (i := 8) (j := 12) (Ni := some 64) (Nj := some 68) #[true, true, true, true, true, true, true, true, true, true, true, true, false, false, false, false] #[true, true, true, true, true, true, true, true, false, true, true, true, true, false, false, false] rfl rfl rfl rfl (two_of HT_.out (by kernel_rfl)) (by decide) (by decide) (fun K hK => ?_) (fun K hK => ?_)
                     ·
                      skip
                      have hcv35 := own_string (P := Try.prog) Try.underlying22 Try.underlying5 Try.underlying9 (Kd.own_of_R HO119.out)
                      refine value_ (w1 := ?_) (v := ?_) (by rfl) rfl ?_ ?_
                      rotate_left 2
                      ·
                       go_simp
                       constructor
                       ·
                        rfl
                       ·
                        rfl
                      clear hcv35
                      refine hK.out _ _ ⟨(blk_cell BK116.out 0).trans rfl, (blk_cell BK116.out 1).trans rfl, (blk_cell BK116.out 2).trans rfl⟩ (fun hHeld => ?_)
                      clear hK K
                      refine norm_ (a' := ?_) ?_ ?_
                      rotate_left
                      ·
                       show Act.put _ (some 64) _ = _
                       exact ap_
                      exact norm_ qz23_ (hJ7_8_11 (v118, v121) _ ⟨hHeld, qz19_, qz20_, qz25_, qz24_, qz16_, qz17_, qz18_, qz15_, qz9_, qz22_, qz21_⟩)
                     ·
                      skip
                      have hcv35 := own_string (P := Try.prog) Try.underlying22 Try.underlying5 Try.underlying9 (Kd.own_of_R HO122.out)
                      refine value_ (w1 := ?_) (v := ?_) (by rfl) rfl ?_ ?_
                      rotate_left 2
                      ·
                       go_simp
                       constructor
                       ·
                        rfl
                       ·
                        rfl
                      clear hcv35
                      refine hK.out _ _ ⟨(blk_cell BK116.out 0).trans rfl, (blk_cell BK116.out 1).trans rfl, (blk_cell BK116.out 2).trans rfl⟩ (fun hHeld => ?_)
                      clear hK K
                      refine norm_ (a' := ?_) ?_ ?_
                      rotate_left
                      ·
                       show Act.put _ (some 68) _ = _
                       exact ap_
                      exact norm_ qz23_ (hJ7_11_12 (v118, v121) _ ⟨hHeld, qz19_, qz20_, qz25_, qz24_, qz16_, qz17_, qz18_, qz15_, qz9_, qz22_, qz21_⟩)
                   ·
                    skip
                    rintro v118 w34 ⟨hS_, h0_, h1_, h2_, h3_, h4_, h5_, h6_, h7_, h8_, h9_⟩
                    have n0_ : Aside0 (Kd.V k126 126 w34 w.heap.size (fun k_ => ((P0_3_ k_ ∨ P0_4_ k_ ∨ P0_5_ k_) ∨ w.heap.size ≤ k_) ∧ some k_ ≠ (v118 : Value).ownBlock ∧ some k_ ≠ (.slice (some ad109) y105.length co16 : Value).ownBlock ∧ k_ ≠ gb101 ∧ k_ ≠ gb116) (.slice (some ad115) (rd_L5 y105 x5_1).length c113_0) (rd_L5 y105 x5_1)) := ⟨h0_⟩
                    have n1_ : Aside0 (Kd.V k126 126 w34 w.heap.size (fun k_ => ((P0_3_ k_ ∨ P0_4_ k_ ∨ P0_5_ k_) ∨ w.heap.size ≤ k_) ∧ some k_ ≠ (v118 : Value).ownBlock ∧ some k_ ≠ (.slice (some ad109) y105.length co16 : Value).ownBlock ∧ k_ ≠ gb101 ∧ k_ ≠ gb116) (.slice (some ad115) (rd_L5 y105 x5_1).length c113_0) (rd_L5 y105 x5_1)) := ⟨h1_⟩
                    have n2_ : Aside0 (Kd.R (Kd.int .u8) 5 w34 w.heap.size (fun k_ => (w.heap.size ≤ k_)) v118 y117) := ⟨h2_⟩
                    have n3_ : Aside0 (Kd.V k126 126 w34 w.heap.size (fun k_ => ((P0_3_ k_ ∨ P0_4_ k_ ∨ P0_5_ k_) ∨ w.heap.size ≤ k_) ∧ some k_ ≠ (v118 : Value).ownBlock ∧ some k_ ≠ (.slice (some ad109) y105.length co16 : Value).ownBlock ∧ k_ ≠ gb101 ∧ k_ ≠ gb116) (.slice A0_3 l0_3.length c0_3) l0_3) := ⟨h3_⟩
                    have n4_ : Aside0 (Kd.V k126 126 w34 w.heap.size (fun k_ => ((P0_3_ k_ ∨ P0_4_ k_ ∨ P0_5_ k_) ∨ w.heap.size ≤ k_) ∧ some k_ ≠ (v118 : Value).ownBlock ∧ some k_ ≠ (.slice (some ad109) y105.length co16 : Value).ownBlock ∧ k_ ≠ gb101 ∧ k_ ≠ gb116) (.slice A0_4 l0_4.length c0_4) l0_4) := ⟨h4_⟩
                    have n5_ : Aside0 (Kd.V k126 126 w34 w.heap.size (fun k_ => ((P0_3_ k_ ∨ P0_4_ k_ ∨ P0_5_ k_) ∨ w.heap.size ≤ k_) ∧ some k_ ≠ (v118 : Value).ownBlock ∧ some k_ ≠ (.slice (some ad109) y105.length co16 : Value).ownBlock ∧ k_ ≠ gb101 ∧ k_ ≠ gb116) (.slice A0_5 l0_5.length c0_5) l0_5) := ⟨h5_⟩
                    have n6_ : Aside0 (Kd.N (Kd.slice 126 k126) 44 w34 w.heap.size (fun k_ => ((P0_3_ k_ ∨ P0_4_ k_ ∨ P0_5_ k_) ∨ w.heap.size ≤ k_) ∧ some k_ ≠ (v118 : Value).ownBlock ∧ k_ ≠ gb101 ∧ k_ ≠ gb116) (.slice (some ad109) y105.length co16) y105) := ⟨h6_⟩
                    have n7_ : Aside0 (w34.heap[gb101]? = some (.cells #[.int .i64 a0_0, .int .i64 a0_1, .int .i64 a0_2, .slice A0_3 l0_3.length c0_3, .slice A0_4 l0_4.length c0_4, .slice A0_5 l0_5.length c0_5] 46 (0, 0))) := ⟨h7_⟩
                    have n8_ : Aside0 (w34.heap[gb116]? = some (.cells #[.int .i64 ((rd_T126 (rd_L5 y105 x5_1) x6_2).f0), .int .i64 ((rd_T126 (rd_L5 y105 x5_1) x6_2).f1), .int .i64 ((rd_T126 (rd_L5 y105 x5_1) x6_2).f2)] 126 (0, 0))) := ⟨h8_⟩
                    have n9_ : Aside0 (Below w.heap.size w w34) := ⟨h9_⟩
                    clear HO_4
                    clear HO_102003
                    clear HO_102004
                    clear HO_102005
                    clear HL113_0
                    clear HL114_0
                    clear BK101
                    clear BK116
                    clear HB
                    clear h0_ h1_ h2_ h3_ h4_ h5_ h6_ h7_ h8_ h9_
                    have HL113_0 := n0_
                    have HL114_0 := n1_
                    have HO119 := n2_
                    have HO_102003 := n3_
                    have HO_102004 := n4_
                    have HO_102005 := n5_
                    have HO_4 := n6_
                    have BK101 := n7_
                    have BK116 := n8_
                    have HB := n9_
                    clear n0_ n1_ n2_ n3_ n4_ n5_ n6_ n7_ n8_ n9_
                    have hHeld : w34.cell? ⟨gb116, 0, none⟩ = some (.int .i64 ((rd_T126 (rd_L5 y105 x5_1) x6_2).f0)) ∧ w34.cell? ⟨gb116, 1, none⟩ = some (.int .i64 ((rd_T126 (rd_L5 y105 x5_1) x6_2).f1)) ∧ w34.cell? ⟨gb116, 2, none⟩ = some (.int .i64 ((rd_T126 (rd_L5 y105 x5_1) x6_2).f2)) := hS_
                    refine norm_ (a' := ?_) ?_ ?_
                    rotate_left
                    ·
                     simp only [putAll, Act.put, List.setIfInBounds_toArray, List.set_cons_zero, List.set_cons_succ]
                     rfl
                    refine one_ (i := 11) (N := some 67) #[true, true, true, true, true, true, true, true, true, true, true, true, false, false, false, false] rfl rfl (one_of HT_.out (by kernel_rfl)) (by decide) (fun K hK => ?_)
                    refine goes_ Try.func91 (by kernel_rfl) rfl #[.int .i64 ((rd_T126 (rd_L5 y105 x5_1) x6_2).f2), .int .i64 4] (by rfl) rfl rfl qz3_ ?_
                    with_reducible refine (spec_l02Number.calls k2 ((rd_T126 (rd_L5 y105 x5_1) x6_2).f2) 4 t120 _ A23.out).mono ?_
                    rintro e w35 ⟨v121, rfl, ho0, hb⟩
                    refine ⟨_, rfl, ?_⟩
                    have n0_ := am_ (Kd.N_elder' qz15_ (Kd.R_base ho0) hb)
                    have n1_ := am_ (Kd.V_elder' qz16_ (Kd.R_base ho0) hb)
                    have n2_ := am_ (Kd.V_elder' qz17_ (Kd.R_base ho0) hb)
                    have n3_ := am_ (Kd.V_elder' qz18_ (Kd.R_base ho0) hb)
                    have n4_ := am_ (Kd.V_elder' qz19_ (Kd.R_base ho0) hb)
                    have n5_ := am_ (Kd.V_elder' qz20_ (Kd.R_base ho0) hb)
                    have n6_ := am_ (Kd.R_elder' qz25_ (Kd.R_base ho0) hb)
                    have n7_ := am_ (Kd.R_lower (Kd.R_new' (Kd.R_newM (M := fun k_ => (w.heap.size ≤ k_)) ho0 (below_size qz21_) (fun k_ h_ => h_)) (Kd.R_lt qz25_)) (below_size qz21_))
                    have n8_ := am_ (blk_below (g := gb101) (o := .cells #[.int .i64 a0_0, .int .i64 a0_1, .int .i64 a0_2, .slice A0_3 l0_3.length c0_3, .slice A0_4 l0_4.length c0_4, .slice A0_5 l0_5.length c0_5] 46 (0, 0)) qz9_ hb)
                    have n9_ := am_ (blk_below (g := gb116) (o := .cells #[.int .i64 ((rd_T126 (rd_L5 y105 x5_1) x6_2).f0), .int .i64 ((rd_T126 (rd_L5 y105 x5_1) x6_2).f1), .int .i64 ((rd_T126 (rd_L5 y105 x5_1) x6_2).f2)] 126 (0, 0)) qz22_ hb)
                    have n10_ := am_ (below_step qz21_ hb)
                    clear HO_4
                    clear HO_102003
                    clear HO_102004
                    clear HO_102005
                    clear HL113_0
                    clear HL114_0
                    clear HO119
                    clear BK101
                    clear BK116
                    clear HB
                    have HO_4 := n0_
                    have HO_102003 := n1_
                    have HO_102004 := n2_
                    have HO_102005 := n3_
                    have HL113_0 := n4_
                    have HL114_0 := n5_
                    have HO119 := n6_
                    have HO122 := n7_
                    have BK101 := n8_
                    have BK116 := n9_
                    have HB := n10_
                    clear n0_ n1_ n2_ n3_ n4_ n5_ n6_ n7_ n8_ n9_ n10_
                    (try clear hb)
                    (try clear hb2)
                    (try clear hk)
                    (try clear hi)
                    (try clear ho0)
                    refine hK.out _ _ ⟨(blk_cell BK116.out 0).trans rfl, (blk_cell BK116.out 1).trans rfl, (blk_cell BK116.out 2).trans rfl⟩ (fun hHeld => ?_)
                    clear hK K
                    refine norm_ (a' := ?_) ?_ ?_
                    rotate_left
                    ·
                     show Act.put _ (some 67) _ = _
                     exact ap_
                    exact norm_ qz23_ (hJ7_8_11 (v118, v121) _ ⟨hHeld, (by (with_reducible repeat (first | apply Kd.V_alloc | apply Kd.V_drewN | apply Kd.V_drew)); exact Kd.V_mono HL113_0.out (fun _ hk => ⟨hk.1.1, ⟨hk.1.2.1, ⟨hk.2, ⟨hk.1.2.2.1, ⟨hk.1.2.2.2.1, hk.1.2.2.2.2⟩⟩⟩⟩⟩)), (by (with_reducible repeat (first | apply Kd.V_alloc | apply Kd.V_drewN | apply Kd.V_drew)); exact Kd.V_mono HL114_0.out (fun _ hk => ⟨hk.1.1, ⟨hk.1.2.1, ⟨hk.2, ⟨hk.1.2.2.1, ⟨hk.1.2.2.2.1, hk.1.2.2.2.2⟩⟩⟩⟩⟩)), qz25_, (by (with_reducible repeat (first | apply Kd.R_alloc | apply Kd.R_drewN | apply Kd.R_drew)); exact Kd.R_mono HO122.out (fun _ hk => ⟨hk.1.1, hk.2⟩)), (by (with_reducible repeat (first | apply Kd.V_alloc | apply Kd.V_drewN | apply Kd.V_drew)); exact Kd.V_mono HO_102003.out (fun _ hk => ⟨hk.1.1, ⟨hk.1.2.1, ⟨hk.2, ⟨hk.1.2.2.1, ⟨hk.1.2.2.2.1, hk.1.2.2.2.2⟩⟩⟩⟩⟩)), (by (with_reducible repeat (first | apply Kd.V_alloc | apply Kd.V_drewN | apply Kd.V_drew)); exact Kd.V_mono HO_102004.out (fun _ hk => ⟨hk.1.1, ⟨hk.1.2.1, ⟨hk.2, ⟨hk.1.2.2.1, ⟨hk.1.2.2.2.1, hk.1.2.2.2.2⟩⟩⟩⟩⟩)), (by (with_reducible repeat (first | apply Kd.V_alloc | apply Kd.V_drewN | apply Kd.V_drew)); exact Kd.V_mono HO_102005.out (fun _ hk => ⟨hk.1.1, ⟨hk.1.2.1, ⟨hk.2, ⟨hk.1.2.2.1, ⟨hk.1.2.2.2.1, hk.1.2.2.2.2⟩⟩⟩⟩⟩)), (by (with_reducible repeat (first | apply Kd.N_alloc | apply Kd.N_drewN | apply Kd.N_drew)); exact Kd.N_mono HO_4.out (fun _ hk => ⟨hk.1.1, ⟨hk.1.2.1, ⟨hk.2, ⟨hk.1.2.2.1, hk.1.2.2.2⟩⟩⟩⟩)), qz9_, qz22_, qz21_⟩)
                  ·
                   skip
                   rintro ⟨v118, v121⟩ w35 ⟨hS_, h0_, h1_, h2_, h3_, h4_, h5_, h6_, h7_, h8_, h9_, h10_⟩
                   have n0_ : Aside0 (Kd.V k126 126 w35 w.heap.size (fun k_ => ((P0_3_ k_ ∨ P0_4_ k_ ∨ P0_5_ k_) ∨ w.heap.size ≤ k_) ∧ some k_ ≠ (v118 : Value).ownBlock ∧ some k_ ≠ (v121 : Value).ownBlock ∧ some k_ ≠ (.slice (some ad109) y105.length co16 : Value).ownBlock ∧ k_ ≠ gb101 ∧ k_ ≠ gb116) (.slice (some ad115) (rd_L5 y105 x5_1).length c113_0) (rd_L5 y105 x5_1)) := ⟨h0_⟩
                   have n1_ : Aside0 (Kd.V k126 126 w35 w.heap.size (fun k_ => ((P0_3_ k_ ∨ P0_4_ k_ ∨ P0_5_ k_) ∨ w.heap.size ≤ k_) ∧ some k_ ≠ (v118 : Value).ownBlock ∧ some k_ ≠ (v121 : Value).ownBlock ∧ some k_ ≠ (.slice (some ad109) y105.length co16 : Value).ownBlock ∧ k_ ≠ gb101 ∧ k_ ≠ gb116) (.slice (some ad115) (rd_L5 y105 x5_1).length c113_0) (rd_L5 y105 x5_1)) := ⟨h1_⟩
                   have n2_ : Aside0 (Kd.R (Kd.int .u8) 5 w35 w.heap.size (fun k_ => (w.heap.size ≤ k_) ∧ some k_ ≠ (v121 : Value).ownBlock) v118 y117) := ⟨h2_⟩
                   have n3_ : Aside0 (Kd.R (Kd.int .u8) 5 w35 w.heap.size (fun k_ => (w.heap.size ≤ k_) ∧ some k_ ≠ (v118 : Value).ownBlock) v121 t120) := ⟨h3_⟩
                   have n4_ : Aside0 (Kd.V k126 126 w35 w.heap.size (fun k_ => ((P0_3_ k_ ∨ P0_4_ k_ ∨ P0_5_ k_) ∨ w.heap.size ≤ k_) ∧ some k_ ≠ (v118 : Value).ownBlock ∧ some k_ ≠ (v121 : Value).ownBlock ∧ some k_ ≠ (.slice (some ad109) y105.length co16 : Value).ownBlock ∧ k_ ≠ gb101 ∧ k_ ≠ gb116) (.slice A0_3 l0_3.length c0_3) l0_3) := ⟨h4_⟩
                   have n5_ : Aside0 (Kd.V k126 126 w35 w.heap.size (fun k_ => ((P0_3_ k_ ∨ P0_4_ k_ ∨ P0_5_ k_) ∨ w.heap.size ≤ k_) ∧ some k_ ≠ (v118 : Value).ownBlock ∧ some k_ ≠ (v121 : Value).ownBlock ∧ some k_ ≠ (.slice (some ad109) y105.length co16 : Value).ownBlock ∧ k_ ≠ gb101 ∧ k_ ≠ gb116) (.slice A0_4 l0_4.length c0_4) l0_4) := ⟨h5_⟩
                   have n6_ : Aside0 (Kd.V k126 126 w35 w.heap.size (fun k_ => ((P0_3_ k_ ∨ P0_4_ k_ ∨ P0_5_ k_) ∨ w.heap.size ≤ k_) ∧ some k_ ≠ (v118 : Value).ownBlock ∧ some k_ ≠ (v121 : Value).ownBlock ∧ some k_ ≠ (.slice (some ad109) y105.length co16 : Value).ownBlock ∧ k_ ≠ gb101 ∧ k_ ≠ gb116) (.slice A0_5 l0_5.length c0_5) l0_5) := ⟨h6_⟩
                   have n7_ : Aside0 (Kd.N (Kd.slice 126 k126) 44 w35 w.heap.size (fun k_ => ((P0_3_ k_ ∨ P0_4_ k_ ∨ P0_5_ k_) ∨ w.heap.size ≤ k_) ∧ some k_ ≠ (v118 : Value).ownBlock ∧ some k_ ≠ (v121 : Value).ownBlock ∧ k_ ≠ gb101 ∧ k_ ≠ gb116) (.slice (some ad109) y105.length co16) y105) := ⟨h7_⟩
                   have n8_ : Aside0 (w35.heap[gb101]? = some (.cells #[.int .i64 a0_0, .int .i64 a0_1, .int .i64 a0_2, .slice A0_3 l0_3.length c0_3, .slice A0_4 l0_4.length c0_4, .slice A0_5 l0_5.length c0_5] 46 (0, 0))) := ⟨h8_⟩
                   have n9_ : Aside0 (w35.heap[gb116]? = some (.cells #[.int .i64 ((rd_T126 (rd_L5 y105 x5_1) x6_2).f0), .int .i64 ((rd_T126 (rd_L5 y105 x5_1) x6_2).f1), .int .i64 ((rd_T126 (rd_L5 y105 x5_1) x6_2).f2)] 126 (0, 0))) := ⟨h9_⟩
                   have n10_ : Aside0 (Below w.heap.size w w35) := ⟨h10_⟩
                   clear HO_4
                   clear HO_102003
                   clear HO_102004
                   clear HO_102005
                   clear HL113_0
                   clear HL114_0
                   clear BK101
                   clear BK116
                   clear HB
                   clear h0_ h1_ h2_ h3_ h4_ h5_ h6_ h7_ h8_ h9_ h10_
                   have HL113_0 := n0_
                   have HL114_0 := n1_
                   have HO119 := n2_
                   have HO122 := n3_
                   have HO_102003 := n4_
                   have HO_102004 := n5_
                   have HO_102005 := n6_
                   have HO_4 := n7_
                   have BK101 := n8_
                   have BK116 := n9_
                   have HB := n10_
                   clear n0_ n1_ n2_ n3_ n4_ n5_ n6_ n7_ n8_ n9_ n10_
                   have hHeld : w35.cell? ⟨gb116, 0, none⟩ = some (.int .i64 ((rd_T126 (rd_L5 y105 x5_1) x6_2).f0)) ∧ w35.cell? ⟨gb116, 1, none⟩ = some (.int .i64 ((rd_T126 (rd_L5 y105 x5_1) x6_2).f1)) ∧ w35.cell? ⟨gb116, 2, none⟩ = some (.int .i64 ((rd_T126 (rd_L5 y105 x5_1) x6_2).f2)) := hS_
                   refine norm_ (a' := ?_) ?_ ?_
                   rotate_left
                   ·
                    simp only [putAll, Act.put, List.setIfInBounds_toArray, List.set_cons_zero, List.set_cons_succ]
                    rfl
                   refine one_ (i := 8) (N := some 64) #[true, true, true, true, true, true, true, true, true, true, true, true, true, false, false, false] rfl rfl (one_of HT_.out (by kernel_rfl)) (by decide) (fun K hK => ?_)
                   have hcv36 := own_string (P := Try.prog) Try.underlying22 Try.underlying5 Try.underlying9 (Kd.own_of_R HO119.out)
                   refine value_ (w1 := ?_) (v := ?_) (by rfl) rfl ?_ ?_
                   rotate_left 2
                   ·
                    go_simp
                    constructor
                    ·
                     rfl
                    ·
                     rfl
                   clear hcv36
                   refine hK.out _ _ ⟨(blk_cell BK116.out 0).trans rfl, (blk_cell BK116.out 1).trans rfl, (blk_cell BK116.out 2).trans rfl⟩ (fun hHeld => ?_)
                   clear hK K
                   refine norm_ (a' := ?_) ?_ ?_
                   rotate_left
                   ·
                    show Act.put _ (some 64) _ = _
                    exact ap_
                   exact norm_ qz23_ (hJ7_8_11_12 (v118, v121) _ ⟨hHeld, qz19_, qz20_, qz25_, qz24_, qz16_, qz17_, qz18_, qz15_, qz9_, qz22_, qz21_⟩)
                 ·
                  skip
                  rintro ⟨v118, v121⟩ w35 ⟨hS_, h0_, h1_, h2_, h3_, h4_, h5_, h6_, h7_, h8_, h9_, h10_⟩
                  have n0_ : Aside0 (Kd.V k126 126 w35 w.heap.size (fun k_ => ((P0_3_ k_ ∨ P0_4_ k_ ∨ P0_5_ k_) ∨ w.heap.size ≤ k_) ∧ some k_ ≠ (v118 : Value).ownBlock ∧ some k_ ≠ (v121 : Value).ownBlock ∧ some k_ ≠ (.slice (some ad109) y105.length co16 : Value).ownBlock ∧ k_ ≠ gb101 ∧ k_ ≠ gb116) (.slice (some ad115) (rd_L5 y105 x5_1).length c113_0) (rd_L5 y105 x5_1)) := ⟨h0_⟩
                  have n1_ : Aside0 (Kd.V k126 126 w35 w.heap.size (fun k_ => ((P0_3_ k_ ∨ P0_4_ k_ ∨ P0_5_ k_) ∨ w.heap.size ≤ k_) ∧ some k_ ≠ (v118 : Value).ownBlock ∧ some k_ ≠ (v121 : Value).ownBlock ∧ some k_ ≠ (.slice (some ad109) y105.length co16 : Value).ownBlock ∧ k_ ≠ gb101 ∧ k_ ≠ gb116) (.slice (some ad115) (rd_L5 y105 x5_1).length c113_0) (rd_L5 y105 x5_1)) := ⟨h1_⟩
                  have n2_ : Aside0 (Kd.R (Kd.int .u8) 5 w35 w.heap.size (fun k_ => (w.heap.size ≤ k_) ∧ some k_ ≠ (v121 : Value).ownBlock) v118 y117) := ⟨h2_⟩
                  have n3_ : Aside0 (Kd.R (Kd.int .u8) 5 w35 w.heap.size (fun k_ => (w.heap.size ≤ k_) ∧ some k_ ≠ (v118 : Value).ownBlock) v121 t120) := ⟨h3_⟩
                  have n4_ : Aside0 (Kd.V k126 126 w35 w.heap.size (fun k_ => ((P0_3_ k_ ∨ P0_4_ k_ ∨ P0_5_ k_) ∨ w.heap.size ≤ k_) ∧ some k_ ≠ (v118 : Value).ownBlock ∧ some k_ ≠ (v121 : Value).ownBlock ∧ some k_ ≠ (.slice (some ad109) y105.length co16 : Value).ownBlock ∧ k_ ≠ gb101 ∧ k_ ≠ gb116) (.slice A0_3 l0_3.length c0_3) l0_3) := ⟨h4_⟩
                  have n5_ : Aside0 (Kd.V k126 126 w35 w.heap.size (fun k_ => ((P0_3_ k_ ∨ P0_4_ k_ ∨ P0_5_ k_) ∨ w.heap.size ≤ k_) ∧ some k_ ≠ (v118 : Value).ownBlock ∧ some k_ ≠ (v121 : Value).ownBlock ∧ some k_ ≠ (.slice (some ad109) y105.length co16 : Value).ownBlock ∧ k_ ≠ gb101 ∧ k_ ≠ gb116) (.slice A0_4 l0_4.length c0_4) l0_4) := ⟨h5_⟩
                  have n6_ : Aside0 (Kd.V k126 126 w35 w.heap.size (fun k_ => ((P0_3_ k_ ∨ P0_4_ k_ ∨ P0_5_ k_) ∨ w.heap.size ≤ k_) ∧ some k_ ≠ (v118 : Value).ownBlock ∧ some k_ ≠ (v121 : Value).ownBlock ∧ some k_ ≠ (.slice (some ad109) y105.length co16 : Value).ownBlock ∧ k_ ≠ gb101 ∧ k_ ≠ gb116) (.slice A0_5 l0_5.length c0_5) l0_5) := ⟨h6_⟩
                  have n7_ : Aside0 (Kd.N (Kd.slice 126 k126) 44 w35 w.heap.size (fun k_ => ((P0_3_ k_ ∨ P0_4_ k_ ∨ P0_5_ k_) ∨ w.heap.size ≤ k_) ∧ some k_ ≠ (v118 : Value).ownBlock ∧ some k_ ≠ (v121 : Value).ownBlock ∧ k_ ≠ gb101 ∧ k_ ≠ gb116) (.slice (some ad109) y105.length co16) y105) := ⟨h7_⟩
                  have n8_ : Aside0 (w35.heap[gb101]? = some (.cells #[.int .i64 a0_0, .int .i64 a0_1, .int .i64 a0_2, .slice A0_3 l0_3.length c0_3, .slice A0_4 l0_4.length c0_4, .slice A0_5 l0_5.length c0_5] 46 (0, 0))) := ⟨h8_⟩
                  have n9_ : Aside0 (w35.heap[gb116]? = some (.cells #[.int .i64 ((rd_T126 (rd_L5 y105 x5_1) x6_2).f0), .int .i64 ((rd_T126 (rd_L5 y105 x5_1) x6_2).f1), .int .i64 ((rd_T126 (rd_L5 y105 x5_1) x6_2).f2)] 126 (0, 0))) := ⟨h9_⟩
                  have n10_ : Aside0 (Below w.heap.size w w35) := ⟨h10_⟩
                  clear HO_4
                  clear HO_102003
                  clear HO_102004
                  clear HO_102005
                  clear HL113_0
                  clear HL114_0
                  clear BK101
                  clear BK116
                  clear HB
                  clear h0_ h1_ h2_ h3_ h4_ h5_ h6_ h7_ h8_ h9_ h10_
                  have HL113_0 := n0_
                  have HL114_0 := n1_
                  have HO119 := n2_
                  have HO122 := n3_
                  have HO_102003 := n4_
                  have HO_102004 := n5_
                  have HO_102005 := n6_
                  have HO_4 := n7_
                  have BK101 := n8_
                  have BK116 := n9_
                  have HB := n10_
                  clear n0_ n1_ n2_ n3_ n4_ n5_ n6_ n7_ n8_ n9_ n10_
                  have hHeld : w35.cell? ⟨gb116, 0, none⟩ = some (.int .i64 ((rd_T126 (rd_L5 y105 x5_1) x6_2).f0)) ∧ w35.cell? ⟨gb116, 1, none⟩ = some (.int .i64 ((rd_T126 (rd_L5 y105 x5_1) x6_2).f1)) ∧ w35.cell? ⟨gb116, 2, none⟩ = some (.int .i64 ((rd_T126 (rd_L5 y105 x5_1) x6_2).f2)) := hS_
                  refine norm_ (a' := ?_) ?_ ?_
                  rotate_left
                  ·
                   simp only [putAll, Act.put, List.setIfInBounds_toArray, List.set_cons_zero, List.set_cons_succ]
                   rfl
                  refine one_ (i := 12) (N := some 68) #[true, true, true, true, true, true, true, true, true, true, true, true, true, false, false, false] rfl rfl (one_of HT_.out (by kernel_rfl)) (by decide) (fun K hK => ?_)
                  have hcv36 := own_string (P := Try.prog) Try.underlying22 Try.underlying5 Try.underlying9 (Kd.own_of_R HO122.out)
                  refine value_ (w1 := ?_) (v := ?_) (by rfl) rfl ?_ ?_
                  rotate_left 2
                  ·
                   go_simp
                   constructor
                   ·
                    rfl
                   ·
                    rfl
                  clear hcv36
                  refine hK.out _ _ ⟨(blk_cell BK116.out 0).trans rfl, (blk_cell BK116.out 1).trans rfl, (blk_cell BK116.out 2).trans rfl⟩ (fun hHeld => ?_)
                  clear hK K
                  refine norm_ (a' := ?_) ?_ ?_
                  rotate_left
                  ·
                   show Act.put _ (some 68) _ = _
                   exact ap_
                  exact norm_ qz23_ (hJ7_8_11_12 (v118, v121) _ ⟨hHeld, qz19_, qz20_, qz25_, qz24_, qz16_, qz17_, qz18_, qz15_, qz9_, qz22_, qz21_⟩)
                rintro ⟨v118, v121⟩ w36 ⟨hS_, h0_, h1_, h2_, h3_, h4_, h5_, h6_, h7_, h8_, h9_, h10_⟩
                have n0_ : Aside0 (Kd.V k126 126 w36 w.heap.size (fun k_ => ((P0_3_ k_ ∨ P0_4_ k_ ∨ P0_5_ k_) ∨ w.heap.size ≤ k_) ∧ some k_ ≠ (v118 : Value).ownBlock ∧ some k_ ≠ (v121 : Value).ownBlock ∧ some k_ ≠ (.slice (some ad109) y105.length co16 : Value).ownBlock ∧ k_ ≠ gb101 ∧ k_ ≠ gb116) (.slice (some ad115) (rd_L5 y105 x5_1).length c113_0) (rd_L5 y105 x5_1)) := ⟨h0_⟩
                have n1_ : Aside0 (Kd.V k126 126 w36 w.heap.size (fun k_ => ((P0_3_ k_ ∨ P0_4_ k_ ∨ P0_5_ k_) ∨ w.heap.size ≤ k_) ∧ some k_ ≠ (v118 : Value).ownBlock ∧ some k_ ≠ (v121 : Value).ownBlock ∧ some k_ ≠ (.slice (some ad109) y105.length co16 : Value).ownBlock ∧ k_ ≠ gb101 ∧ k_ ≠ gb116) (.slice (some ad115) (rd_L5 y105 x5_1).length c113_0) (rd_L5 y105 x5_1)) := ⟨h1_⟩
                have n2_ : Aside0 (Kd.R (Kd.int .u8) 5 w36 w.heap.size (fun k_ => (w.heap.size ≤ k_) ∧ some k_ ≠ (v121 : Value).ownBlock) v118 y117) := ⟨h2_⟩
                have n3_ : Aside0 (Kd.R (Kd.int .u8) 5 w36 w.heap.size (fun k_ => (w.heap.size ≤ k_) ∧ some k_ ≠ (v118 : Value).ownBlock) v121 t120) := ⟨h3_⟩
                have n4_ : Aside0 (Kd.V k126 126 w36 w.heap.size (fun k_ => ((P0_3_ k_ ∨ P0_4_ k_ ∨ P0_5_ k_) ∨ w.heap.size ≤ k_) ∧ some k_ ≠ (v118 : Value).ownBlock ∧ some k_ ≠ (v121 : Value).ownBlock ∧ some k_ ≠ (.slice (some ad109) y105.length co16 : Value).ownBlock ∧ k_ ≠ gb101 ∧ k_ ≠ gb116) (.slice A0_3 l0_3.length c0_3) l0_3) := ⟨h4_⟩
                have n5_ : Aside0 (Kd.V k126 126 w36 w.heap.size (fun k_ => ((P0_3_ k_ ∨ P0_4_ k_ ∨ P0_5_ k_) ∨ w.heap.size ≤ k_) ∧ some k_ ≠ (v118 : Value).ownBlock ∧ some k_ ≠ (v121 : Value).ownBlock ∧ some k_ ≠ (.slice (some ad109) y105.length co16 : Value).ownBlock ∧ k_ ≠ gb101 ∧ k_ ≠ gb116) (.slice A0_4 l0_4.length c0_4) l0_4) := ⟨h5_⟩
                have n6_ : Aside0 (Kd.V k126 126 w36 w.heap.size (fun k_ => ((P0_3_ k_ ∨ P0_4_ k_ ∨ P0_5_ k_) ∨ w.heap.size ≤ k_) ∧ some k_ ≠ (v118 : Value).ownBlock ∧ some k_ ≠ (v121 : Value).ownBlock ∧ some k_ ≠ (.slice (some ad109) y105.length co16 : Value).ownBlock ∧ k_ ≠ gb101 ∧ k_ ≠ gb116) (.slice A0_5 l0_5.length c0_5) l0_5) := ⟨h6_⟩
                have n7_ : Aside0 (Kd.N (Kd.slice 126 k126) 44 w36 w.heap.size (fun k_ => ((P0_3_ k_ ∨ P0_4_ k_ ∨ P0_5_ k_) ∨ w.heap.size ≤ k_) ∧ some k_ ≠ (v118 : Value).ownBlock ∧ some k_ ≠ (v121 : Value).ownBlock ∧ k_ ≠ gb101 ∧ k_ ≠ gb116) (.slice (some ad109) y105.length co16) y105) := ⟨h7_⟩
                have n8_ : Aside0 (w36.heap[gb101]? = some (.cells #[.int .i64 a0_0, .int .i64 a0_1, .int .i64 a0_2, .slice A0_3 l0_3.length c0_3, .slice A0_4 l0_4.length c0_4, .slice A0_5 l0_5.length c0_5] 46 (0, 0))) := ⟨h8_⟩
                have n9_ : Aside0 (w36.heap[gb116]? = some (.cells #[.int .i64 ((rd_T126 (rd_L5 y105 x5_1) x6_2).f0), .int .i64 ((rd_T126 (rd_L5 y105 x5_1) x6_2).f1), .int .i64 ((rd_T126 (rd_L5 y105 x5_1) x6_2).f2)] 126 (0, 0))) := ⟨h9_⟩
                have n10_ : Aside0 (Below w.heap.size w w36) := ⟨h10_⟩
                clear HO_4
                clear HO_102003
                clear HO_102004
                clear HO_102005
                clear HL113_0
                clear HL114_0
                clear BK101
                clear BK116
                clear HB
                clear h0_ h1_ h2_ h3_ h4_ h5_ h6_ h7_ h8_ h9_ h10_
                have HL113_0 := n0_
                have HL114_0 := n1_
                have HO119 := n2_
                have HO122 := n3_
                have HO_102003 := n4_
                have HO_102004 := n5_
                have HO_102005 := n6_
                have HO_4 := n7_
                have BK101 := n8_
                have BK116 := n9_
                have HB := n10_
                clear n0_ n1_ n2_ n3_ n4_ n5_ n6_ n7_ n8_ n9_ n10_
                have hHeld : w36.cell? ⟨gb116, 0, none⟩ = some (.int .i64 ((rd_T126 (rd_L5 y105 x5_1) x6_2).f0)) ∧ w36.cell? ⟨gb116, 1, none⟩ = some (.int .i64 ((rd_T126 (rd_L5 y105 x5_1) x6_2).f1)) ∧ w36.cell? ⟨gb116, 2, none⟩ = some (.int .i64 ((rd_T126 (rd_L5 y105 x5_1) x6_2).f2)) := hS_
                refine norm_ (a' := ?_) ?_ ?_
                rotate_left
                ·
                 simp only [putAll, Act.put, List.setIfInBounds_toArray, List.set_cons_zero, List.set_cons_succ]
                 rfl
                refine pure_ (i := 13) (N := some 69) (v := ?_) (a' := ?_) #[true, true, true, true, true, true, true, true, true, true, true, true, true, true, false, false] rfl rfl (any_of HT_.out (by kernel_rfl)) (fun _ _ _ h => h) (Or.inl ⟨(by rfl), ?_⟩) ?_ ?_
                rotate_left
                ·
                 intro w'
                 go_simp
                 with_reducible rfl
                rotate_left
                ·
                 exact ap_
                refine pure_ (i := 14) (N := some 70) (v := ?_) (a' := ?_) #[true, true, true, true, true, true, true, true, true, true, true, true, true, true, true, false] rfl rfl (any_of HT_.out (by kernel_rfl)) (fun _ _ _ h => h) (Or.inl ⟨(by rfl), ?_⟩) ?_ ?_
                rotate_left
                ·
                 intro w'
                 go_simp
                 with_reducible rfl
                rotate_left
                ·
                 exact ap_
                refine pure_ (i := 15) (N := some 3) (v := ?_) (a' := ?_) #[true, true, true, true, true, true, true, true, true, true, true, true, true, true, true, true] rfl rfl (any_of HT_.out (by kernel_rfl)) (fun _ _ _ h => h) (Or.inl ⟨(by rfl), ?_⟩) ?_ ?_
                rotate_left
                ·
                 intro w'
                 go_simp
                 with_reducible rfl
                rotate_left
                ·
                 exact ap_
                refine done_ (done_of HT_.out (by kernel_rfl)) ?_
                try go_wp2
                go_roundg k2
                case measure => have := HK1.out; have := HK2.out; omega
                case rel => exact ⟨(x3_2 ++ ((strOfNums y117) ++ (strOfNums t120))), (wrap64 (x6_2 + 1)), qz0_, qz0_, H', ⟨(by have := HK1.out; have := HK2.out; omega)⟩, ⟨by (with_reducible repeat (first | apply Kd.N_alloc | apply Kd.N_drewN | apply Kd.N_drew)); exact Kd.N_mono HO_4.out (fun _ hk => ⟨hk.1, hk.2.2.2.1⟩)⟩, ⟨by (with_reducible repeat (first | apply Kd.V_alloc | apply Kd.V_drewN | apply Kd.V_drew)); exact Kd.V_mono HO_102003.out (fun _ hk => ⟨hk.1, ⟨hk.2.2.2.1, hk.2.2.2.2.1⟩⟩)⟩, ⟨by (with_reducible repeat (first | apply Kd.V_alloc | apply Kd.V_drewN | apply Kd.V_drew)); exact Kd.V_mono HO_102004.out (fun _ hk => ⟨hk.1, ⟨hk.2.2.2.1, hk.2.2.2.2.1⟩⟩)⟩, ⟨by (with_reducible repeat (first | apply Kd.V_alloc | apply Kd.V_drewN | apply Kd.V_drew)); exact Kd.V_mono HO_102005.out (fun _ hk => ⟨hk.1, ⟨hk.2.2.2.1, hk.2.2.2.2.1⟩⟩)⟩, ⟨qz9_⟩, ⟨qz21_⟩⟩
               ·
                rw [if_neg c25] at H
                exact absurd H (by simp)
              ·
               rw [if_neg c24] at H
               exact absurd H (by simp)
             ·
              rw [if_neg c22] at H
              exact absurd H (by simp)
            ·
             rw [if_neg c21] at H
             have c21b0 : decide (x6_2 < ((rd_L5 y105 x5_1).length : Int)) = false := decide_eq_false c21
             clear c21
             have H' := am_ H
             clear H
             have p113 : 0 ≤ (x5_1 : Int) := of_decide_eq_true qz6_
             have q113 : x5_1 < (y105.length : Int) := of_decide_eq_true qz6_
             obtain ⟨ad113, A113_0, c113_0, e113, hx113_0, hl113_0, hi113_0⟩ := at_L5 (Kd.N_reads' HO_4.out).2.2 x5_1 p113 q113
             obtain rfl : ad109 = ad113 := (by injection e113)
             obtain ⟨ce113, hce113, hMe113, hcc113⟩ := Kd.N_get HO_4.out [] x5_1 p113 (by first | exact q113 | exact of_decide_eq_true qz6_ | (have e_ := (Kd.N_reads' HO_4.out).1; omega))
             obtain ⟨ua113_0, uc113_0, rfl, ul113_0, ge113_0⟩ := Kd.FK_slice_open hMe113
             have hv113_0 := hcc113 0 _ rfl
             rw [Nat.add_zero, show ((Kd.slice 126 k126)).sz = 1 from rfl, Nat.mul_one] at hv113_0
             replace hv113_0 := Option.some.inj (hv113_0.symm.trans hx113_0)
             injection hv113_0 with hva_ hvn_ hvc_
             rw [hva_] at ge113_0
             rw [hvc_] at ul113_0
             have HL113_0 := am_ (show Kd.V k126 126 _ w.heap.size _ _ (rd_L5 y105 x5_1) from Kd.V_mk ul113_0 ge113_0)
             clear hva_ hvn_ hvc_ ge113_0 ul113_0
             clear hcc113 hce113
             have HR113_0 := am_ hi113_0
             have HC113_0 := am_ hl113_0
             clear hi113_0 hl113_0
             replace p113 := eq_true p113
             replace q113 := eq_true q113
             go_wp2
             go_roundg k2
             case measure => have := HK1.out; have := HK2.out; omega
             case rel => exact ⟨(x3_2), (wrap64 (x5_1 + 1)), qz0_, qz0_, H', ⟨(by have := HK1.out; have := HK2.out; omega)⟩, ⟨qz15_⟩, ⟨qz16_⟩, ⟨qz17_⟩, ⟨qz18_⟩, ⟨qz9_⟩, ⟨qz5_⟩⟩
           ·
            rw [if_neg c20] at H
            exact absurd H (by simp)
          ·
           rw [if_neg c19] at H
           exact absurd H (by simp)
       ·
        rw [if_neg c15] at H
        exact absurd H (by simp)
      ·
       rw [if_neg c13] at H
       exact absurd H (by simp)
     ·
      rw [if_neg c12] at H
      exact absurd H (by simp)
    ·
     rw [if_neg c11] at H
     have c11b0 : decide (x5_1 < 3) = false := decide_eq_false c11
     clear c11
     replace H := Option.bind_eq_some_iff.mp H
     obtain ⟨t108, A370, H⟩ := H
     replace H : (some t108) = some r := H
     have A37 := am_ A370
     clear A370
     obtain rfl := Option.some.inj H
     go_wp2_with (first | ((with_reducible refine gate_callee (f := 92) rfl ?_); refine goesL_ (some 72) rfl rfl Try.func92 (by kernel_rfl) rfl #[.string x3_1] rfl qz3_ ?_; (with_reducible refine (spec_l03Hash.calls x3_1 t108 _ A37.out).mono ?_); rintro e w38 ⟨rfl, hb⟩; refine ⟨_, rfl, ?_⟩; have n0_ := am_ (Kd.N_below qz15_ hb); have n1_ := am_ (Kd.V_below qz16_ hb); have n2_ := am_ (Kd.V_below qz17_ hb); have n3_ := am_ (Kd.V_below qz18_ hb); have n4_ := am_ (blk_below (g := gb101) (o := .cells #[.int .i64 a0_0, .int .i64 a0_1, .int .i64 a0_2, .slice A0_3 l0_3.length c0_3, .slice A0_4 l0_4.length c0_4, .slice A0_5 l0_5.length c0_5] 46 (0, 0)) qz9_ hb); have n5_ := am_ (below_step qz5_ hb); clear HO_4; clear HO_102003; clear HO_102004; clear HO_102005; clear BK101; clear HB; have HO_4 := n0_; have HO_102003 := n1_; have HO_102004 := n2_; have HO_102005 := n3_; have BK101 := n4_; have HB := n5_; clear n0_ n1_ n2_ n3_ n4_ n5_; (try clear hb); (try clear hb2); (try clear hk); (try clear hi)))
     go_ret
     exact ⟨qz4_, qz5_⟩
 ·
  rw [if_neg c2] at H
  exact absurd H (by simp)

end Go.Proofs.Ytgookagndlfehaa.PT
end
section
namespace Go.Proofs.Ytgookagndlfehaa.PT
open Go.RowKit Go.Proofs.YtgookagndlfehaaW.PrintWords Go.Proofs.YtgookagndlfehaaW.PrintLast Go.Proofs.YtgookagndlfehaaW.PrintMore
attribute [local go_sem] max2_int min2_int max_two min_two max_three min_three max_four min_four   -- for this text's walks alone
set_option linter.unusedVariables false
set_option linter.unusedSimpArgs false
def spec_SystemDigest.f (k : Nat) (a0_0 : Int) (a0_1 : Int) (a0_2 : Int) (l0_3 : List (S126)) (l0_4 : List (S126)) (l0_5 : List (S126)) : Option (ByteArray × Int) := (spec_SystemOK.f k a0_0 a0_1 a0_2 l0_3 l0_4 l0_5).bind fun t102 => (if t102 = true then ((spec_l10Digest.f k a0_0 a0_1 a0_2 l0_3 l0_4 l0_5).bind fun t103 => (some (t103, 0))) else (some ((⟨#[]⟩ : ByteArray), 1)))
theorem spec_SystemDigest.mono : ∀ a0 a1 a2 a3 a4 a5 k, LeO (spec_SystemDigest.f k a0 a1 a2 a3 a4 a5) (spec_SystemDigest.f (k + 1) a0 a1 a2 a3 a4 a5) := by
 intro a0 a1 a2 a3 a4 a5 k
 unfold spec_SystemDigest.f
 repeat' first
   | (with_reducible exact spec_SystemOK.mono _ _ _ _ _ _ _)
   | (with_reducible exact spec_l10Digest.mono _ _ _ _ _ _ _)
   | (with_reducible exact LeO.refl _)
   | (with_reducible exact LeO.none _)
   | (with_reducible refine LeO.ite ?_ ?_)
   | (with_reducible refine LeO.bind ?_ (fun _ => ?_))
   | exact spec_SystemOK.mono _ _ _ _ _ _ _
   | exact spec_l10Digest.mono _ _ _ _ _ _ _
   | exact LeO.none _
   | refine LeO.ite ?_ ?_
   | refine LeO.bind ?_ (fun _ => ?_)
set_option maxHeartbeats 8000000 in
set_option maxRecDepth 100000 in
theorem spec_SystemDigest.calls (k : Nat) (a0_0 : Int) (a0_1 : Int) (a0_2 : Int) (A0_3 : Option Addr) (c0_3 : Nat) (l0_3 : List (S126)) (A0_4 : Option Addr) (c0_4 : Nat) (l0_4 : List (S126)) (A0_5 : Option Addr) (c0_5 : Nat) (l0_5 : List (S126)) (r1 : ByteArray) (r2 : Int) (w : World) (hr0_3 : Kd.C k126 w A0_3 l0_3.length l0_3) (hc0_3 : l0_3.length ≤ c0_3) (hr0_4 : Kd.C k126 w A0_4 l0_4.length l0_4) (hc0_4 : l0_4.length ≤ c0_4) (hr0_5 : Kd.C k126 w A0_5 l0_5.length l0_5) (hc0_5 : l0_5.length ≤ c0_5) (h : spec_SystemDigest.f k a0_0 a0_1 a0_2 l0_3 l0_4 l0_5 = some (r1, r2)) :
  Calls Try.prog 15 #[.agg #[.int .i64 a0_0, .int .i64 a0_1, .int .i64 a0_2, .slice A0_3 l0_3.length c0_3, .slice A0_4 l0_4.length c0_4, .slice A0_5 l0_5.length c0_5]] w fun e w' => e = .returned (.tuple #[.string r1, .int .i64 r2]) ∧ Below w.heap.size w w' := by
 have hu46 := Try.underlying46
 have HR0_3 := am_ hr0_3
 have HC0_3 := am_ hc0_3
 clear hr0_3 hc0_3
 have HR0_4 := am_ hr0_4
 have HC0_4 := am_ hc0_4
 clear hr0_4 hc0_4
 have HR0_5 := am_ hr0_5
 have HC0_5 := am_ hc0_5
 clear hr0_5 hc0_5
 have HB := am_ (Below.refl w.heap.size w)
 have H : ((spec_SystemOK.f k a0_0 a0_1 a0_2 l0_3 l0_4 l0_5).bind fun t102 => (if t102 = true then ((spec_l10Digest.f k a0_0 a0_1 a0_2 l0_3 l0_4 l0_5).bind fun t103 => (some (t103, 0))) else (some ((⟨#[]⟩ : ByteArray), 1)))) = some (r1, r2) := h
 clear h
 replace H := Option.bind_eq_some_iff.mp H
 obtain ⟨t102, A20, H⟩ := H
 replace H : (if t102 = true then ((spec_l10Digest.f k a0_0 a0_1 a0_2 l0_3 l0_4 l0_5).bind fun t103 => (some (t103, 0))) else (some ((⟨#[]⟩ : ByteArray), 1))) = some (r1, r2) := H
 have A2 := am_ A20
 clear A20
 by_cases c3 : t102 = true
 ·
  subst c3
  have H1 : ((spec_l10Digest.f k a0_0 a0_1 a0_2 l0_3 l0_4 l0_5).bind fun t103 => (some (t103, 0))) = some (r1, r2) := by rw [if_pos rfl] at H; exact H
  clear H
  have H := H1
  clear H1
  replace H := Option.bind_eq_some_iff.mp H
  obtain ⟨t103, A40, H⟩ := H
  replace H : (some (t103, 0)) = some (r1, r2) := H
  have A4 := am_ A40
  clear A40
  simp only [Option.some.injEq, Prod.mk.injEq] at H
  obtain ⟨rfl, rfl⟩ := H
  go_enter Try.func15, Try.ntmps15
  go_wp2_with (first | ((with_reducible refine gate_dst (N := 1) rfl ?_); refine box_event ?hg (N := 1) ?hd (cs := #[.int .i64 a0_0, .int .i64 a0_1, .int .i64 a0_2, .slice A0_3 l0_3.length c0_3, .slice A0_4 l0_4.length c0_4, .slice A0_5 l0_5.length c0_5]) (t := 46) ?hr ?_; (case hd => rfl); (case hg => rfl); (case hr => first | (go_simp; done) | (go_simp; rfl)); intro gb101 hg w5 hbox hb; have n0_ := am_ (below_step qz2_ hb); have n1_ := am_ (hbox); have n2_ := am_ ((by rw [hg]; exact (below_size qz2_) : w.heap.size ≤ gb101)); have n3_ := am_ ((by rw [hg]; exact (below_size qz2_) : w.heap.size ≤ gb101)); clear HB; have HB := n0_; have BK101 := n1_; have GW101 := n2_; have GE101 := n3_; clear n0_ n1_ n2_ n3_; clear hb hbox hg; have hcz6_0 : w5.cell? ⟨gb101, 0, none⟩ = some (.int .i64 a0_0) := (blk_cell BK101.out 0).trans rfl; have hcz6_1 : w5.cell? ⟨gb101, 1, none⟩ = some (.int .i64 a0_1) := (blk_cell BK101.out 1).trans rfl; have hcz6_2 : w5.cell? ⟨gb101, 2, none⟩ = some (.int .i64 a0_2) := (blk_cell BK101.out 2).trans rfl; have hcz6_3 : w5.cell? ⟨gb101, 3, none⟩ = some (.slice A0_3 l0_3.length c0_3) := (blk_cell BK101.out 3).trans rfl; have hcz6_4 : w5.cell? ⟨gb101, 4, none⟩ = some (.slice A0_4 l0_4.length c0_4) := (blk_cell BK101.out 4).trans rfl; have hcz6_5 : w5.cell? ⟨gb101, 5, none⟩ = some (.slice A0_5 l0_5.length c0_5) := (blk_cell BK101.out 5).trans rfl; have hfz6_0 := blk_frozen BK101.out 0; have hfz6_1 := blk_frozen BK101.out 1; have hfz6_2 := blk_frozen BK101.out 2; have hfz6_3 := blk_frozen BK101.out 3; have hfz6_4 := blk_frozen BK101.out 4; have hfz6_5 := blk_frozen BK101.out 5) | ((with_reducible refine gate_callee (f := 52) rfl ?_); refine goesL_ (some 5) rfl rfl Try.func52 (by kernel_rfl) rfl #[.agg #[.int .i64 a0_0, .int .i64 a0_1, .int .i64 a0_2, .slice A0_3 l0_3.length c0_3, .slice A0_4 l0_4.length c0_4, .slice A0_5 l0_5.length c0_5]] rfl qz3_ ?_; (with_reducible refine (spec_SystemOK.calls k a0_0 a0_1 a0_2 _ _ l0_3 _ _ l0_4 _ _ l0_5 true _ ?side1 ?side2 ?side3 ?side4 ?side5 ?side6 A2.out).mono ?_); (case side1 => exact qc_ (Kd.C_below HR0_3.out HB.out)); (case side2 => exact HC0_3.out); (case side3 => exact qc_ (Kd.C_below HR0_4.out HB.out)); (case side4 => exact HC0_4.out); (case side5 => exact qc_ (Kd.C_below HR0_5.out HB.out)); (case side6 => exact HC0_5.out); rintro e w7 ⟨rfl, hb⟩; refine ⟨_, rfl, ?_⟩; have n0_ := am_ (blk_below (g := gb101) (o := .cells #[.int .i64 a0_0, .int .i64 a0_1, .int .i64 a0_2, .slice A0_3 l0_3.length c0_3, .slice A0_4 l0_4.length c0_4, .slice A0_5 l0_5.length c0_5] 46 (0, 0)) qz9_ hb); have n1_ := am_ (below_step qz5_ hb); clear BK101; clear HB; have BK101 := n0_; have HB := n1_; clear n0_ n1_; (try clear hb); (try clear hb2); (try clear hk); (try clear hi); have hcz8_0 : w7.cell? ⟨gb101, 0, none⟩ = some (.int .i64 a0_0) := (blk_cell BK101.out 0).trans rfl; have hcz8_1 : w7.cell? ⟨gb101, 1, none⟩ = some (.int .i64 a0_1) := (blk_cell BK101.out 1).trans rfl; have hcz8_2 : w7.cell? ⟨gb101, 2, none⟩ = some (.int .i64 a0_2) := (blk_cell BK101.out 2).trans rfl; have hcz8_3 : w7.cell? ⟨gb101, 3, none⟩ = some (.slice A0_3 l0_3.length c0_3) := (blk_cell BK101.out 3).trans rfl; have hcz8_4 : w7.cell? ⟨gb101, 4, none⟩ = some (.slice A0_4 l0_4.length c0_4) := (blk_cell BK101.out 4).trans rfl; have hcz8_5 : w7.cell? ⟨gb101, 5, none⟩ = some (.slice A0_5 l0_5.length c0_5) := (blk_cell BK101.out 5).trans rfl; have hfz8_0 := blk_frozen BK101.out 0; have hfz8_1 := blk_frozen BK101.out 1; have hfz8_2 := blk_frozen BK101.out 2; have hfz8_3 := blk_frozen BK101.out 3; have hfz8_4 := blk_frozen BK101.out 4; have hfz8_5 := blk_frozen BK101.out 5) | ((with_reducible refine gate_callee (f := 53) rfl ?_); refine goesL_ (some 8) rfl rfl Try.func53 (by kernel_rfl) rfl #[.agg #[.int .i64 a0_0, .int .i64 a0_1, .int .i64 a0_2, .slice A0_3 l0_3.length c0_3, .slice A0_4 l0_4.length c0_4, .slice A0_5 l0_5.length c0_5]] rfl qz3_ ?_; (with_reducible refine (spec_l10Digest.calls k a0_0 a0_1 a0_2 (fun k_ => k_ < w.heap.size) _ _ l0_3 (fun k_ => k_ < w.heap.size) _ _ l0_4 (fun k_ => k_ < w.heap.size) _ _ l0_5 t103 _ ?side1 ?side2 ?side3 A4.out).mono ?_); (case side1 => exact Kd.V_mk HC0_3.out (Kd.F_below (Kd.C_F k126_heap HR0_3.out) qz5_)); (case side2 => exact Kd.V_mk HC0_4.out (Kd.F_below (Kd.C_F k126_heap HR0_4.out) qz5_)); (case side3 => exact Kd.V_mk HC0_5.out (Kd.F_below (Kd.C_F k126_heap HR0_5.out) qz5_)); rintro e w9 ⟨rfl, hb⟩; refine ⟨_, rfl, ?_⟩; have n0_ := am_ (blk_below (g := gb101) (o := .cells #[.int .i64 a0_0, .int .i64 a0_1, .int .i64 a0_2, .slice A0_3 l0_3.length c0_3, .slice A0_4 l0_4.length c0_4, .slice A0_5 l0_5.length c0_5] 46 (0, 0)) qz9_ hb); have n1_ := am_ (below_step qz5_ hb); clear BK101; clear HB; have BK101 := n0_; have HB := n1_; clear n0_ n1_; (try clear hb); (try clear hb2); (try clear hk); (try clear hi)))
  go_ret2
  exact ⟨qz4_, qz5_⟩
 ·
  replace c3 := Bool.eq_false_iff.mpr c3
  subst c3
  have H1 : (some ((⟨#[]⟩ : ByteArray), 1)) = some (r1, r2) := by rw [if_neg (show ¬ (false = true) by decide)] at H; exact H
  clear H
  have H := H1
  clear H1
  simp only [Option.some.injEq, Prod.mk.injEq] at H
  obtain ⟨rfl, rfl⟩ := H
  go_enter Try.func15, Try.ntmps15
  go_wp2_with (first | ((with_reducible refine gate_dst (N := 1) rfl ?_); refine box_event ?hg (N := 1) ?hd (cs := #[.int .i64 a0_0, .int .i64 a0_1, .int .i64 a0_2, .slice A0_3 l0_3.length c0_3, .slice A0_4 l0_4.length c0_4, .slice A0_5 l0_5.length c0_5]) (t := 46) ?hr ?_; (case hd => rfl); (case hg => rfl); (case hr => first | (go_simp; done) | (go_simp; rfl)); intro gb101 hg w10 hbox hb; have n0_ := am_ (below_step qz2_ hb); have n1_ := am_ (hbox); have n2_ := am_ ((by rw [hg]; exact (below_size qz2_) : w.heap.size ≤ gb101)); have n3_ := am_ ((by rw [hg]; exact (below_size qz2_) : w.heap.size ≤ gb101)); clear HB; have HB := n0_; have BK101 := n1_; have GW101 := n2_; have GE101 := n3_; clear n0_ n1_ n2_ n3_; clear hb hbox hg; have hcz11_0 : w10.cell? ⟨gb101, 0, none⟩ = some (.int .i64 a0_0) := (blk_cell BK101.out 0).trans rfl; have hcz11_1 : w10.cell? ⟨gb101, 1, none⟩ = some (.int .i64 a0_1) := (blk_cell BK101.out 1).trans rfl; have hcz11_2 : w10.cell? ⟨gb101, 2, none⟩ = some (.int .i64 a0_2) := (blk_cell BK101.out 2).trans rfl; have hcz11_3 : w10.cell? ⟨gb101, 3, none⟩ = some (.slice A0_3 l0_3.length c0_3) := (blk_cell BK101.out 3).trans rfl; have hcz11_4 : w10.cell? ⟨gb101, 4, none⟩ = some (.slice A0_4 l0_4.length c0_4) := (blk_cell BK101.out 4).trans rfl; have hcz11_5 : w10.cell? ⟨gb101, 5, none⟩ = some (.slice A0_5 l0_5.length c0_5) := (blk_cell BK101.out 5).trans rfl; have hfz11_0 := blk_frozen BK101.out 0; have hfz11_1 := blk_frozen BK101.out 1; have hfz11_2 := blk_frozen BK101.out 2; have hfz11_3 := blk_frozen BK101.out 3; have hfz11_4 := blk_frozen BK101.out 4; have hfz11_5 := blk_frozen BK101.out 5) | ((with_reducible refine gate_callee (f := 52) rfl ?_); refine goesL_ (some 5) rfl rfl Try.func52 (by kernel_rfl) rfl #[.agg #[.int .i64 a0_0, .int .i64 a0_1, .int .i64 a0_2, .slice A0_3 l0_3.length c0_3, .slice A0_4 l0_4.length c0_4, .slice A0_5 l0_5.length c0_5]] rfl qz3_ ?_; (with_reducible refine (spec_SystemOK.calls k a0_0 a0_1 a0_2 _ _ l0_3 _ _ l0_4 _ _ l0_5 false _ ?side1 ?side2 ?side3 ?side4 ?side5 ?side6 A2.out).mono ?_); (case side1 => exact qc_ (Kd.C_below HR0_3.out HB.out)); (case side2 => exact HC0_3.out); (case side3 => exact qc_ (Kd.C_below HR0_4.out HB.out)); (case side4 => exact HC0_4.out); (case side5 => exact qc_ (Kd.C_below HR0_5.out HB.out)); (case side6 => exact HC0_5.out); rintro e w12 ⟨rfl, hb⟩; refine ⟨_, rfl, ?_⟩; have n0_ := am_ (blk_below (g := gb101) (o := .cells #[.int .i64 a0_0, .int .i64 a0_1, .int .i64 a0_2, .slice A0_3 l0_3.length c0_3, .slice A0_4 l0_4.length c0_4, .slice A0_5 l0_5.length c0_5] 46 (0, 0)) qz9_ hb); have n1_ := am_ (below_step qz5_ hb); clear BK101; clear HB; have BK101 := n0_; have HB := n1_; clear n0_ n1_; (try clear hb); (try clear hb2); (try clear hk); (try clear hi)))
  go_ret2
  exact ⟨qz4_, qz5_⟩

def laws_toEntry.f (a0_0 : Int) (a0_1 : Int) (a0_2 : Int) : Option (Int × Int × Int) := some (a0_0, a0_1, a0_2)
set_option maxHeartbeats 8000000 in
set_option maxRecDepth 100000 in
theorem laws_toEntry.calls (a0_0 : Int) (a0_1 : Int) (a0_2 : Int) (r1 : Int) (r2 : Int) (r3 : Int) (w : World) (h : laws_toEntry.f a0_0 a0_1 a0_2 = some (r1, r2, r3)) :
  Calls Try.prog 93 #[.agg #[.int .i64 a0_0, .int .i64 a0_1, .int .i64 a0_2]] w fun e w' => e = .returned (.agg #[.int .i64 r1, .int .i64 r2, .int .i64 r3]) ∧ Below w.heap.size w w' := by
 have hu128 := Try.underlying128
 have hu126 := Try.underlying126
 have HB := am_ (Below.refl w.heap.size w)
 have H : (some (a0_0, a0_1, a0_2)) = some (r1, r2, r3) := h
 clear h
 simp only [Option.some.injEq, Prod.mk.injEq] at H
 obtain ⟨rfl, rfl, rfl⟩ := H
 go_enter Try.func93, Try.ntmps93
 go_wp2_with (first | ((with_reducible refine gate_dst (N := 1) rfl ?_); refine box_event ?hg (N := 1) ?hd (cs := #[.int .i64 a0_0, .int .i64 a0_1, .int .i64 a0_2]) (t := 128) ?hr ?_; (case hd => rfl); (case hg => rfl); (case hr => first | (go_simp; done) | (go_simp; rfl)); intro gb101 hg w2 hbox hb; have n0_ := am_ (below_step qz2_ hb); have n1_ := am_ (hbox); have n2_ := am_ ((by rw [hg]; exact (below_size qz2_) : w.heap.size ≤ gb101)); have n3_ := am_ ((by rw [hg]; exact (below_size qz2_) : w.heap.size ≤ gb101)); clear HB; have HB := n0_; have BK101 := n1_; have GW101 := n2_; have GE101 := n3_; clear n0_ n1_ n2_ n3_; clear hb hbox hg) | ((with_reducible refine gate_dst (N := 2) rfl ?_); refine box_event ?hg (N := 2) ?hd (cs := #[.int .i64 0, .int .i64 0, .int .i64 0]) (t := 126) ?hr ?_; (case hd => rfl); (case hg => rfl); (case hr => first | (go_simp; done) | (go_simp; rfl)); intro gb102 hg w3 hbox hb; have n0_ := am_ (blk_below (g := gb101) (o := .cells #[.int .i64 a0_0, .int .i64 a0_1, .int .i64 a0_2] 128 (0, 0)) qz9_ hb); have n1_ := am_ (below_step qz5_ hb); have n2_ := am_ (hbox); have n3_ := am_ ((by rw [hg]; exact (below_size qz5_) : w.heap.size ≤ gb102)); have n4_ := am_ ((by rw [hg]; exact (below_size qz5_) : w.heap.size ≤ gb102)); have n5_ := am_ ((by rw [hg]; exact Nat.ne_of_lt (blk_lt (g := gb101) (o := .cells #[.int .i64 a0_0, .int .i64 a0_1, .int .i64 a0_2] 128 (0, 0)) qz9_) : gb101 ≠ gb102)); have n6_ := am_ ((by rw [hg]; exact Nat.ne_of_gt (blk_lt (g := gb101) (o := .cells #[.int .i64 a0_0, .int .i64 a0_1, .int .i64 a0_2] 128 (0, 0)) qz9_) : gb102 ≠ gb101)); clear BK101; clear HB; have BK101 := n0_; have HB := n1_; have BK102 := n2_; have GW102 := n3_; have GE102 := n4_; have NB101_102 := n5_; have NB102_101 := n6_; clear n0_ n1_ n2_ n3_ n4_ n5_ n6_; clear hb hbox hg) | ((with_reducible refine gate_dst (N := 3) rfl ?_); refine box_event ?hg (N := 3) ?hd (cs := #[.int .i64 0, .int .i64 0, .int .i64 0]) (t := 126) ?hr ?_; (case hd => rfl); (case hg => rfl); (case hr => first | (go_simp; done) | (go_simp; rfl)); intro gb103 hg w4 hbox hb; have n0_ := am_ (blk_below (g := gb101) (o := .cells #[.int .i64 a0_0, .int .i64 a0_1, .int .i64 a0_2] 128 (0, 0)) qz9_ hb); have n1_ := am_ (blk_below (g := gb102) (o := .cells #[.int .i64 0, .int .i64 0, .int .i64 0] 126 (0, 0)) qz26_ hb); have n2_ := am_ (below_step qz27_ hb); have n3_ := am_ (hbox); have n4_ := am_ ((by rw [hg]; exact (below_size qz27_) : w.heap.size ≤ gb103)); have n5_ := am_ ((by rw [hg]; exact (below_size qz27_) : w.heap.size ≤ gb103)); have n6_ := am_ ((by rw [hg]; exact Nat.ne_of_lt (blk_lt (g := gb101) (o := .cells #[.int .i64 a0_0, .int .i64 a0_1, .int .i64 a0_2] 128 (0, 0)) qz9_) : gb101 ≠ gb103)); have n7_ := am_ ((by rw [hg]; exact Nat.ne_of_gt (blk_lt (g := gb101) (o := .cells #[.int .i64 a0_0, .int .i64 a0_1, .int .i64 a0_2] 128 (0, 0)) qz9_) : gb103 ≠ gb101)); have n8_ := am_ ((by rw [hg]; exact Nat.ne_of_lt (blk_lt (g := gb102) (o := .cells #[.int .i64 0, .int .i64 0, .int .i64 0] 126 (0, 0)) qz26_) : gb102 ≠ gb103)); have n9_ := am_ ((by rw [hg]; exact Nat.ne_of_gt (blk_lt (g := gb102) (o := .cells #[.int .i64 0, .int .i64 0, .int .i64 0] 126 (0, 0)) qz26_) : gb103 ≠ gb102)); clear BK101; clear BK102; clear HB; have BK101 := n0_; have BK102 := n1_; have HB := n2_; have BK103 := n3_; have GW103 := n4_; have GE103 := n5_; have NB101_103 := n6_; have NB103_101 := n7_; have NB102_103 := n8_; have NB103_102 := n9_; clear n0_ n1_ n2_ n3_ n4_ n5_ n6_ n7_ n8_ n9_; clear hb hbox hg; have hnb5 := NB101_102.out; have hnc5 := NB102_101.out; have hnb6 := NB101_103.out; have hnc6 := NB103_101.out; have hcz7_0 : w4.cell? ⟨gb101, 0, none⟩ = some (.int .i64 a0_0) := (blk_cell BK101.out 0).trans rfl; have hcz7_1 : w4.cell? ⟨gb101, 1, none⟩ = some (.int .i64 a0_1) := (blk_cell BK101.out 1).trans rfl; have hcz7_2 : w4.cell? ⟨gb101, 2, none⟩ = some (.int .i64 a0_2) := (blk_cell BK101.out 2).trans rfl; have hfz7_0 := blk_frozen BK101.out 0; have hfz7_1 := blk_frozen BK101.out 1; have hfz7_2 := blk_frozen BK101.out 2; have hnb8 := NB103_102.out; have hnc8 := NB102_103.out; have hcz9_0 : w4.cell? ⟨gb103, 0, none⟩ = some (.int .i64 0) := (blk_cell BK103.out 0).trans rfl; have hcz9_1 : w4.cell? ⟨gb103, 1, none⟩ = some (.int .i64 0) := (blk_cell BK103.out 1).trans rfl; have hcz9_2 : w4.cell? ⟨gb103, 2, none⟩ = some (.int .i64 0) := (blk_cell BK103.out 2).trans rfl; have hfz9_0 := blk_frozen BK103.out 0; have hfz9_1 := blk_frozen BK103.out 1; have hfz9_2 := blk_frozen BK103.out 2; have hcz10_0 : w4.cell? ⟨gb102, 0, none⟩ = some (.int .i64 0) := (blk_cell BK102.out 0).trans rfl; have hcz10_1 : w4.cell? ⟨gb102, 1, none⟩ = some (.int .i64 0) := (blk_cell BK102.out 1).trans rfl; have hcz10_2 : w4.cell? ⟨gb102, 2, none⟩ = some (.int .i64 0) := (blk_cell BK102.out 2).trans rfl; have hfz10_0 := blk_frozen BK102.out 0; have hfz10_1 := blk_frozen BK102.out 1; have hfz10_2 := blk_frozen BK102.out 2))
 refine bodyPost_ret (results_cell_row rfl _ _ gb102 126 #[.int .i64 a0_0, .int .i64 a0_1, .int .i64 a0_2] (0, 0) _ rfl (by (with_reducible repeat (first | refine blk_drewN ?_ _ | refine blk_drew ?_ | refine blk_alloc ?_ _)); refine blk_put (cs := #[.int .i64 a0_0, .int .i64 a0_1, .int .i64 0]) ?_ 2 _ rfl; (with_reducible repeat (first | refine blk_drewN ?_ _ | refine blk_drew ?_ | refine blk_alloc ?_ _)); refine blk_put (cs := #[.int .i64 a0_0, .int .i64 0, .int .i64 0]) ?_ 1 _ rfl; (with_reducible repeat (first | refine blk_drewN ?_ _ | refine blk_drew ?_ | refine blk_alloc ?_ _)); refine blk_put (cs := #[.int .i64 0, .int .i64 0, .int .i64 0]) ?_ 0 _ rfl; (with_reducible repeat (first | refine blk_drewN ?_ _ | refine blk_drew ?_ | refine blk_alloc ?_ _)); refine blk_far ?_ NB102_103.out _; (with_reducible repeat (first | refine blk_drewN ?_ _ | refine blk_drew ?_ | refine blk_alloc ?_ _)); refine blk_far ?_ NB102_103.out _; (with_reducible repeat (first | refine blk_drewN ?_ _ | refine blk_drew ?_ | refine blk_alloc ?_ _)); refine blk_far ?_ NB102_103.out _; (with_reducible repeat (first | refine blk_drewN ?_ _ | refine blk_drew ?_ | refine blk_alloc ?_ _)); exact BK102.out) Try.underlying126 rfl (by kernel_rfl)) rfl ?_
 exact ⟨qz4_, qz28_⟩

def laws_toEntryS.l0 : Nat → List (S128) → List (S126) → Int → Option ((List (S126)))
 | 0, _, _, _ => none
 | k + 1, x0, x3, x4 => if x4 < (x0.length : Int) then (if 0 ≤ x4 then ((laws_toEntry.f ((rd_T128 x0 x4).f0) ((rd_T128 x0 x4).f1) ((rd_T128 x0 x4).f2)).bind fun bt105 => (if x4 < (x3.length : Int) then (laws_toEntryS.l0 k x0 (x3.set (x4 : Int).toNat (⟨bt105.1, bt105.2.1, bt105.2.2⟩ : S126)) (wrap64 (x4 + 1))) else (none))) else (none)) else (some x3)
def laws_toEntryS.f (k : Nat) (l0 : List (S128)) : Option ((List (S126))) := if 0 ≤ (l0.length : Int) then (if ((l0.length : Int) : Int).toNat ≤ 11728124029610 then (laws_toEntryS.l0 k l0 (List.replicate ((l0.length : Int) : Int).toNat z126) 0) else (none)) else (none)
theorem laws_toEntryS.mono_l : ∀ k, (∀ y0 y1 y2, LeO (laws_toEntryS.l0 k y0 y1 y2) (laws_toEntryS.l0 (k + 1) y0 y1 y2))
 | 0 => fun _ _ _ r h => by simp [laws_toEntryS.l0] at h
 | k + 1 => by
  have ih0 := laws_toEntryS.mono_l k
  ·
   intro y0 y1 y2
   unfold laws_toEntryS.l0
   repeat' first
   | (with_reducible exact ih0 _ _ _)
   | (with_reducible exact LeO.refl _)
   | (with_reducible exact LeO.none _)
   | (with_reducible refine LeO.ite ?_ ?_)
   | (with_reducible refine LeO.bind ?_ (fun _ => ?_))
   | exact ih0 _ _ _
   | exact LeO.none _
   | refine LeO.ite ?_ ?_
   | refine LeO.bind ?_ (fun _ => ?_)
theorem laws_toEntryS.mono : ∀ a0 k, LeO (laws_toEntryS.f k a0) (laws_toEntryS.f (k + 1) a0) := by
 intro a0 k
 have ih0 := laws_toEntryS.mono_l k
 unfold laws_toEntryS.f
 repeat' first
   | (with_reducible exact ih0 _ _ _)
   | (with_reducible exact LeO.refl _)
   | (with_reducible exact LeO.none _)
   | (with_reducible refine LeO.ite ?_ ?_)
   | (with_reducible refine LeO.bind ?_ (fun _ => ?_))
   | exact ih0 _ _ _
   | exact LeO.none _
   | refine LeO.ite ?_ ?_
   | refine LeO.bind ?_ (fun _ => ?_)
set_option maxHeartbeats 8000000 in
set_option maxRecDepth 100000 in
theorem laws_toEntryS.calls (k : Nat) (A0 : Option Addr) (c0 : Nat) (l0 : List (S128)) (r : List (S126)) (w : World) (hr0 : Kd.C k128 w A0 l0.length l0) (hc0 : l0.length ≤ c0) (h : laws_toEntryS.f k l0 = some r) :
  Calls Try.prog 54 #[.slice A0 l0.length c0] w fun e w' => ∃ v0_ : Value, e = .returned (v0_) ∧ Kd.R k126 126 w' w.heap.size (fun _ => True) v0_ r ∧ Below w.heap.size w w' := by
 have hu128 := Try.underlying128
 have hu126 := Try.underlying126
 have HR0 := am_ hr0
 have HC0 := am_ hc0
 clear hr0 hc0
 have HB := am_ (Below.refl w.heap.size w)
 have H : (if 0 ≤ (l0.length : Int) then (if ((l0.length : Int) : Int).toNat ≤ 11728124029610 then (laws_toEntryS.l0 k l0 (List.replicate ((l0.length : Int) : Int).toNat z126) 0) else (none)) else (none)) = some r := h
 clear h
 by_cases c2 : 0 ≤ (l0.length : Int)
 ·
  rw [if_pos c2] at H
  have c2b0 := eq_true c2
  have c2b1 : decide (0 ≤ (l0.length : Int)) = true := decide_eq_true c2
  clear c2
  by_cases c3 : ((l0.length : Int) : Int).toNat ≤ 11728124029610
  ·
   rw [if_pos c3] at H
   have c3b0 := eq_true c3
   have c3b1 : decide (((l0.length : Int) : Int).toNat ≤ 11728124029610) = true := decide_eq_true c3
   clear c3
   obtain ⟨y101, hy101⟩ : ∃ y_ : List (S126), y_ = (List.replicate ((l0.length : Int) : Int).toNat z126) := ⟨_, rfl⟩
   replace H : (laws_toEntryS.l0 k l0 y101 0) = some r := by first | (rw [hy101]; with_reducible exact H) | (have H2_ := (Option.bind_some _ _).symm.trans H; rw [hy101]; with_reducible exact H2_) | (have H2_ := (Option.bind_some _ _).symm.trans H; with_reducible exact H2_) | with_reducible exact H | (rw [hy101]; exact H) | exact H
   have Ny101 := am_ hy101
   clear hy101
   have H' := am_ H
   clear H
   go_enter Try.func54, Try.ntmps54
   go_wp2_with (first | ((with_reducible refine gate_dst (N := 7) rfl ?_); refine Kd.R_make k126 _ 126 rfl (N := 7) rfl 44 _ _ rfl (l0.length : Int) rfl rfl Try.underlying44 (.agg #[(.int .i64 0), (.int .i64 0), (.int .i64 0)]) 24 info126 rfl (by decide) (by omega) z126 (ok := fun _ => True) (okp := fun _ => True) (k126_mkM _ _ _ z126 ) (fun _ hk => hk) trivial (of_decide_eq_true qz6_) (Nat.le_trans (Nat.mul_le_mul_right _ (of_decide_eq_true qz6_ : (l0.length : Int).toNat ≤ 11728124029610)) (by omega)) (Below.refl _ _) (Nat.le_refl _) ?_; intro v102 w4 ho5 hb hg_ hnew_; clear hg_ hnew_; (first | rw [← Ny101.out] at ho5 | (simp only [Int.reduceToNat] at ho5; rw [← Ny101.out] at ho5)); have n0_ := am_ (Kd.R_lower ho5 (below_size qz2_)); have n1_ := am_ (below_step qz2_ hb); clear HB; have HO103 := n0_; have HB := n1_; clear n0_ n1_; clear hb ho5))
   go_loopg [4] k (fun kq v4 w' => ∃ (x3_1 : List (S126)) (x4_1 : Int), v4 = .int .i64 x4_1 ∧ Aside0 (laws_toEntryS.l0 kq l0 x3_1 x4_1 = some r) ∧ Aside0 (kq ≤ k) ∧ Aside0 (Kd.R k126 126 w' w.heap.size (fun _ => True) v102 x3_1) ∧ Aside0 (Below w.heap.size w w'))
   case atStart => exact ⟨(y101), (0), qz0_, H', ⟨Nat.le_refl _⟩, ⟨(by (with_reducible repeat (first | apply Kd.R_alloc | apply Kd.R_drewN | apply Kd.R_drew)); exact HO103.out)⟩, ⟨qz2_⟩⟩
   case round =>
    clear H'
    try clear c2
    try clear c2b0
    try clear c2b1
    try clear p2
    try clear c3
    try clear c3b0
    try clear c3b1
    try clear c5
    obtain ⟨x3_1, x4_1, rfl, HA, HK1, HO_3, HB⟩ := hrel
    cases gk with
    | zero => exact absurd HA.out (by simp [laws_toEntryS.l0])
    | succ k1 =>
     have H := HA.out
     clear HA
     simp only [laws_toEntryS.l0] at H
     by_cases c6 : x4_1 < (l0.length : Int)
     ·
      rw [if_pos c6] at H
      have c6b0 : decide (x4_1 < (l0.length : Int)) = true := decide_eq_true c6
      clear c6
      by_cases c7 : 0 ≤ x4_1
      ·
       rw [if_pos c7] at H
       have c7b0 : decide (0 ≤ x4_1) = true := decide_eq_true c7
       clear c7
       replace H := Option.bind_eq_some_iff.mp H
       obtain ⟨⟨t105, t106, t107⟩, A80, H⟩ := H
       replace H : (if x4_1 < (x3_1.length : Int) then (laws_toEntryS.l0 k1 l0 (x3_1.set (x4_1 : Int).toNat (⟨t105, t106, t107⟩ : S126)) (wrap64 (x4_1 + 1))) else (none)) = some r := H
       have A8 := am_ A80
       clear A80
       by_cases c9 : x4_1 < (x3_1.length : Int)
       ·
        rw [if_pos c9] at H
        have c9b0 : decide (x4_1 < (x3_1.length : Int)) = true := decide_eq_true c9
        clear c9
        obtain ⟨y108, hy108⟩ : ∃ y_ : List (S126), y_ = (x3_1.set (x4_1 : Int).toNat (⟨t105, t106, t107⟩ : S126)) := ⟨_, rfl⟩
        replace H : (laws_toEntryS.l0 k1 l0 y108 (wrap64 (x4_1 + 1))) = some r := by first | (rw [hy108]; with_reducible exact H) | (have H2_ := (Option.bind_some _ _).symm.trans H; rw [hy108]; with_reducible exact H2_) | (have H2_ := (Option.bind_some _ _).symm.trans H; with_reducible exact H2_) | with_reducible exact H | (rw [hy108]; exact H) | exact H
        have Ny108 := am_ hy108
        clear hy108
        have H' := am_ H
        clear H
        have p104 : 0 ≤ (x4_1 : Int) := of_decide_eq_true qz6_
        have q104 : x4_1 < (l0.length : Int) := of_decide_eq_true qz6_
        obtain ⟨ad104, e104, hx104_0, hx104_1, hx104_2⟩ := at_T128 HR0.out x4_1 p104 q104
        cases e104
        replace hx104_0 := (HB.out.cell (World.block_lt_of_cell? w _ hx104_0)).trans hx104_0
        replace hx104_1 := (HB.out.cell (World.block_lt_of_cell? w _ hx104_1)).trans hx104_1
        replace hx104_2 := (HB.out.cell (World.block_lt_of_cell? w _ hx104_2)).trans hx104_2
        replace p104 := eq_true p104
        replace q104 := eq_true q104
        go_wp2_with (first | ((with_reducible refine gate_callee (f := 93) rfl ?_); refine goesL_ (some 20) rfl rfl Try.func93 (by kernel_rfl) rfl #[.agg #[.int .i64 ((rd_T128 l0 x4_1).f0), .int .i64 ((rd_T128 l0 x4_1).f1), .int .i64 ((rd_T128 l0 x4_1).f2)]] rfl qz3_ ?_; (with_reducible refine (laws_toEntry.calls ((rd_T128 l0 x4_1).f0) ((rd_T128 l0 x4_1).f1) ((rd_T128 l0 x4_1).f2) t105 t106 t107 _ A8.out).mono ?_); rintro e w11 ⟨rfl, hb⟩; refine ⟨_, rfl, ?_⟩; have n0_ := am_ (Kd.R_below qz14_ hb); have n1_ := am_ (below_step qz2_ hb); clear HO_3; clear HB; have HO_3 := n0_; have HB := n1_; clear n0_ n1_; (try clear hb); (try clear hb2); (try clear hk); (try clear hi); have p10 : 0 ≤ (x4_1 : Int) := of_decide_eq_true qz6_; have q10 : (x4_1 : Int) < ((x3_1.length : Int) : Int) := of_decide_eq_true qz6_; obtain ⟨go10, co10, eo10, gb10, gl10, cl10, HG10⟩ := Kd.R_form HO_3.out (by omega); (first | cases eo10 | (injection eo10 with ea_ en_ ec_; (first | subst ea_ | (injection ea_ with ea_; subst ea_)); subst ec_; clear en_)); have GB10 := am_ gb10; have GG10 := am_ HG10; clear gb10 gl10 HG10; obtain ⟨ce10, hcl10, hM10, hcc10, hfr10⟩ := Kd.R_elem HO_3.out z126 (x4_1 : Int) p10 q10; obtain rfl := k126_openM hM10; have hx10_0 : w11.cell? ⟨go10, (x4_1 : Int).toNat * 3, none⟩ = some (.int .i64 ((rd_T126 x3_1 x4_1).f0)) := hcc10 0 _ rfl; have hx10_1 : w11.cell? ⟨go10, (x4_1 : Int).toNat * 3 + 1, none⟩ = some (.int .i64 ((rd_T126 x3_1 x4_1).f1)) := hcc10 1 _ rfl; have hx10_2 : w11.cell? ⟨go10, (x4_1 : Int).toNat * 3 + 2, none⟩ = some (.int .i64 ((rd_T126 x3_1 x4_1).f2)) := hcc10 2 _ rfl; have hf10_0 : w11.frozen? ⟨go10, (x4_1 : Int).toNat * 3, none⟩ = false := hfr10 0; have hf10_1 : w11.frozen? ⟨go10, (x4_1 : Int).toNat * 3 + 1, none⟩ = false := hfr10 1; have hf10_2 : w11.frozen? ⟨go10, (x4_1 : Int).toNat * 3 + 2, none⟩ = false := hfr10 2; (try clear hcl10); (try clear hcc10); (try clear hfr10); (try clear hM10); replace p10 := eq_true p10; replace q10 := eq_true q10; have HX12 := am_ (show Kd.R k126 126 w11 w.heap.size (fun _ => True) (.slice (some ⟨go10, 0, none⟩) x3_1.length co10) x3_1 from qz14_); obtain ⟨ce12, hcl12, hM12, hcc12, hfr12⟩ := Kd.R_elem HX12.out z126 (x4_1 : Int) (of_decide_eq_true qz6_) (by have h_ : (x4_1 : Int) < ((x3_1.length : Int) : Int) := of_decide_eq_true qz6_; first | exact h_ | (have e_ := (Kd.R_reads' HO_3.out).1; omega) | simpa using h_); obtain rfl := k126_openM hM12; have HP12 := Kd.R_seg HX12.out (x4_1 : Int) (of_decide_eq_true qz6_) (by have h_ : (x4_1 : Int) < ((x3_1.length : Int) : Int) := of_decide_eq_true qz6_; first | exact h_ | (have e_ := (Kd.R_reads' HO_3.out).1; omega) | simpa using h_) (seg := [.int .i64 t105, .int .i64 t106, .int .i64 t107]) (j := 0) hcl12 hcc12 (show 3 ≤ 3 from by decide) (x' := (⟨t105, t106, t107⟩ : S126)) (k126_mkM _ _ _ (⟨t105, t106, t107⟩ : S126) ) (fun _ hk => hk); have hx12_0 := hcc12 0 _ rfl; (try simp only [show (k126).sz = 3 from rfl, Nat.mul_one, Nat.add_zero] at hx12_0); have hf12_0 := hfr12 0; (try simp only [show (k126).sz = 3 from rfl, Nat.mul_one, Nat.add_zero] at hf12_0); have hx12_1 := hcc12 1 _ rfl; (try simp only [show (k126).sz = 3 from rfl, Nat.mul_one, Nat.add_zero] at hx12_1); have hf12_1 := hfr12 1; (try simp only [show (k126).sz = 3 from rfl, Nat.mul_one, Nat.add_zero] at hf12_1); have hx12_2 := hcc12 2 _ rfl; (try simp only [show (k126).sz = 3 from rfl, Nat.mul_one, Nat.add_zero] at hx12_2); have hf12_2 := hfr12 2; (try simp only [show (k126).sz = 3 from rfl, Nat.mul_one, Nat.add_zero] at hf12_2); (try clear hcl12); (try clear hcc12); (try clear hfr12); (try clear hM12)) | ((with_reducible refine gate_store (t := 126) (p := 21) rfl ?_); refine store_event (t := 126) (p := 21) (v := ?vo_w13) (w1 := (((w11.setCell ⟨go10, (x4_1 : Int).toNat * 3, none⟩ (.int .i64 t105)).setCell ⟨go10, (x4_1 : Int).toNat * 3 + 1, none⟩ (.int .i64 t106)).setCell ⟨go10, (x4_1 : Int).toNat * 3 + 2, none⟩ (.int .i64 t107))) ?hg ?ho ?hn ?hr ?_; (case ho => rfl); (case hg => rfl); (case hn => rfl); (case hr => first | (go_simp; done) | (go_simp; rfl)); intro w13 hw; have hg : w11.grownBy w13 (some go10) := (by rw [hw]; exact HP12.2); have hp_ : Kd.R k126 126 w13 w.heap.size (fun _ => True) (.slice (some ⟨go10, 0, none⟩) x3_1.length co10) y108 := (by rw [hw, Ny108.out]; exact HP12.1); clear HP12; have n0_ := am_ (hp_); have n1_ := am_ ((by rw [hw]; exact below_set (below_set (below_set (HB.out) GB10.out) GB10.out) GB10.out : Below w.heap.size w w13)); clear HO_3; clear HB; have HO_3 := n0_; have HB := n1_; clear n0_ n1_; clear hg hw hp_))
        go_roundg k1
        case measure => have := HK1.out; omega
        case rel => exact ⟨(y108), (wrap64 (x4_1 + 1)), qz0_, H', ⟨(by have := HK1.out; omega)⟩, ⟨qz14_⟩, ⟨qz2_⟩⟩
       ·
        rw [if_neg c9] at H
        exact absurd H (by simp)
      ·
       rw [if_neg c7] at H
       exact absurd H (by simp)
     ·
      rw [if_neg c6] at H
      have c6b0 : decide (x4_1 < (l0.length : Int)) = false := decide_eq_false c6
      clear c6
      obtain rfl := Option.some.inj H
      go_wp2
      go_ret
      exact ⟨_, qz4_, qz14_, qz2_⟩
  ·
   rw [if_neg c3] at H
   exact absurd H (by simp)
 ·
  rw [if_neg c2] at H
  exact absurd H (by simp)

def laws_toSystem.f (k : Nat) (a0_0 : Int) (a0_1 : Int) (a0_2 : Int) (l0_3 : List (S128)) (l0_4 : List (S128)) (l0_5 : List (S128)) : Option (Int × Int × Int × (List (S126)) × (List (S126)) × (List (S126))) := (laws_toEntryS.f k l0_3).bind fun t104 => ((laws_toEntryS.f k l0_4).bind fun t107 => ((laws_toEntryS.f k l0_5).bind fun t110 => (some (a0_0, a0_1, a0_2, t104, t107, t110))))
theorem laws_toSystem.mono : ∀ a0 a1 a2 a3 a4 a5 k, LeO (laws_toSystem.f k a0 a1 a2 a3 a4 a5) (laws_toSystem.f (k + 1) a0 a1 a2 a3 a4 a5) := by
 intro a0 a1 a2 a3 a4 a5 k
 unfold laws_toSystem.f
 repeat' first
   | (with_reducible exact laws_toEntryS.mono _ _)
   | (with_reducible exact LeO.refl _)
   | (with_reducible exact LeO.none _)
   | (with_reducible refine LeO.ite ?_ ?_)
   | (with_reducible refine LeO.bind ?_ (fun _ => ?_))
   | exact laws_toEntryS.mono _ _
   | exact LeO.none _
   | refine LeO.ite ?_ ?_
   | refine LeO.bind ?_ (fun _ => ?_)
set_option maxHeartbeats 8000000 in
set_option maxRecDepth 100000 in
theorem laws_toSystem.calls (k : Nat) (a0_0 : Int) (a0_1 : Int) (a0_2 : Int) (A0_3 : Option Addr) (c0_3 : Nat) (l0_3 : List (S128)) (A0_4 : Option Addr) (c0_4 : Nat) (l0_4 : List (S128)) (A0_5 : Option Addr) (c0_5 : Nat) (l0_5 : List (S128)) (r1 : Int) (r2 : Int) (r3 : Int) (r4 : List (S126)) (r5 : List (S126)) (r6 : List (S126)) (w : World) (hr0_3 : Kd.C k128 w A0_3 l0_3.length l0_3) (hc0_3 : l0_3.length ≤ c0_3) (hr0_4 : Kd.C k128 w A0_4 l0_4.length l0_4) (hc0_4 : l0_4.length ≤ c0_4) (hr0_5 : Kd.C k128 w A0_5 l0_5.length l0_5) (hc0_5 : l0_5.length ≤ c0_5) (h : laws_toSystem.f k a0_0 a0_1 a0_2 l0_3 l0_4 l0_5 = some (r1, r2, r3, r4, r5, r6)) :
  Calls Try.prog 16 #[.agg #[.int .i64 a0_0, .int .i64 a0_1, .int .i64 a0_2, .slice A0_3 l0_3.length c0_3, .slice A0_4 l0_4.length c0_4, .slice A0_5 l0_5.length c0_5]] w fun e w' => ∃ v3_ v4_ v5_ : Value, e = .returned (.agg #[.int .i64 r1, .int .i64 r2, .int .i64 r3, v3_, v4_, v5_]) ∧ Kd.R k126 126 w' w.heap.size (fun k_ => some k_ ≠ (v4_ : Value).ownBlock ∧ some k_ ≠ (v5_ : Value).ownBlock) v3_ r4 ∧ Kd.R k126 126 w' w.heap.size (fun k_ => some k_ ≠ (v3_ : Value).ownBlock ∧ some k_ ≠ (v5_ : Value).ownBlock) v4_ r5 ∧ Kd.R k126 126 w' w.heap.size (fun k_ => some k_ ≠ (v3_ : Value).ownBlock ∧ some k_ ≠ (v4_ : Value).ownBlock) v5_ r6 ∧ Below w.heap.size w w' := by
 have hu40 := Try.underlying40
 have hu46 := Try.underlying46
 have HR0_3 := am_ hr0_3
 have HC0_3 := am_ hc0_3
 clear hr0_3 hc0_3
 have HR0_4 := am_ hr0_4
 have HC0_4 := am_ hc0_4
 clear hr0_4 hc0_4
 have HR0_5 := am_ hr0_5
 have HC0_5 := am_ hc0_5
 clear hr0_5 hc0_5
 have HB := am_ (Below.refl w.heap.size w)
 have H : ((laws_toEntryS.f k l0_3).bind fun t104 => ((laws_toEntryS.f k l0_4).bind fun t107 => ((laws_toEntryS.f k l0_5).bind fun t110 => (some (a0_0, a0_1, a0_2, t104, t107, t110))))) = some (r1, r2, r3, r4, r5, r6) := h
 clear h
 replace H := Option.bind_eq_some_iff.mp H
 obtain ⟨t104, A20, H⟩ := H
 replace H : ((laws_toEntryS.f k l0_4).bind fun t107 => ((laws_toEntryS.f k l0_5).bind fun t110 => (some (a0_0, a0_1, a0_2, t104, t107, t110)))) = some (r1, r2, r3, r4, r5, r6) := H
 have A2 := am_ A20
 clear A20
 replace H := Option.bind_eq_some_iff.mp H
 obtain ⟨t107, A30, H⟩ := H
 replace H : ((laws_toEntryS.f k l0_5).bind fun t110 => (some (a0_0, a0_1, a0_2, t104, t107, t110))) = some (r1, r2, r3, r4, r5, r6) := H
 have A3 := am_ A30
 clear A30
 replace H := Option.bind_eq_some_iff.mp H
 obtain ⟨t110, A40, H⟩ := H
 replace H : (some (a0_0, a0_1, a0_2, t104, t107, t110)) = some (r1, r2, r3, r4, r5, r6) := H
 have A4 := am_ A40
 clear A40
 simp only [Option.some.injEq, Prod.mk.injEq] at H
 obtain ⟨rfl, rfl, rfl, rfl, rfl, rfl⟩ := H
 go_enter Try.func16, Try.ntmps16
 go_wp2_with (first | ((with_reducible refine gate_dst (N := 1) rfl ?_); refine box_event ?hg (N := 1) ?hd (cs := #[.int .i64 a0_0, .int .i64 a0_1, .int .i64 a0_2, .slice A0_3 l0_3.length c0_3, .slice A0_4 l0_4.length c0_4, .slice A0_5 l0_5.length c0_5]) (t := 40) ?hr ?_; (case hd => rfl); (case hg => rfl); (case hr => first | (go_simp; done) | (go_simp; rfl)); intro gb101 hg w5 hbox hb; have n0_ := am_ (below_step qz2_ hb); have n1_ := am_ (hbox); have n2_ := am_ ((by rw [hg]; exact (below_size qz2_) : w.heap.size ≤ gb101)); have n3_ := am_ ((by rw [hg]; exact (below_size qz2_) : w.heap.size ≤ gb101)); clear HB; have HB := n0_; have BK101 := n1_; have GW101 := n2_; have GE101 := n3_; clear n0_ n1_ n2_ n3_; clear hb hbox hg) | ((with_reducible refine gate_dst (N := 2) rfl ?_); refine box_event ?hg (N := 2) ?hd (cs := #[.int .i64 0, .int .i64 0, .int .i64 0, .slice none 0 0, .slice none 0 0, .slice none 0 0]) (t := 46) ?hr ?_; (case hd => rfl); (case hg => rfl); (case hr => first | (go_simp; done) | (go_simp; rfl)); intro gb102 hg w6 hbox hb; have n0_ := am_ (blk_below (g := gb101) (o := .cells #[.int .i64 a0_0, .int .i64 a0_1, .int .i64 a0_2, .slice A0_3 l0_3.length c0_3, .slice A0_4 l0_4.length c0_4, .slice A0_5 l0_5.length c0_5] 40 (0, 0)) qz9_ hb); have n1_ := am_ (below_step qz5_ hb); have n2_ := am_ (hbox); have n3_ := am_ ((by rw [hg]; exact (below_size qz5_) : w.heap.size ≤ gb102)); have n4_ := am_ ((by rw [hg]; exact (below_size qz5_) : w.heap.size ≤ gb102)); have n5_ := am_ ((by rw [hg]; exact Nat.ne_of_lt (blk_lt (g := gb101) (o := .cells #[.int .i64 a0_0, .int .i64 a0_1, .int .i64 a0_2, .slice A0_3 l0_3.length c0_3, .slice A0_4 l0_4.length c0_4, .slice A0_5 l0_5.length c0_5] 40 (0, 0)) qz9_) : gb101 ≠ gb102)); have n6_ := am_ ((by rw [hg]; exact Nat.ne_of_gt (blk_lt (g := gb101) (o := .cells #[.int .i64 a0_0, .int .i64 a0_1, .int .i64 a0_2, .slice A0_3 l0_3.length c0_3, .slice A0_4 l0_4.length c0_4, .slice A0_5 l0_5.length c0_5] 40 (0, 0)) qz9_) : gb102 ≠ gb101)); clear BK101; clear HB; have BK101 := n0_; have HB := n1_; have BK102 := n2_; have GW102 := n3_; have GE102 := n4_; have NB101_102 := n5_; have NB102_101 := n6_; clear n0_ n1_ n2_ n3_ n4_ n5_ n6_; clear hb hbox hg) | ((with_reducible refine gate_dst (N := 3) rfl ?_); refine box_event ?hg (N := 3) ?hd (cs := #[.int .i64 0, .int .i64 0, .int .i64 0, .slice none 0 0, .slice none 0 0, .slice none 0 0]) (t := 46) ?hr ?_; (case hd => rfl); (case hg => rfl); (case hr => first | (go_simp; done) | (go_simp; rfl)); intro gb103 hg w7 hbox hb; have n0_ := am_ (blk_below (g := gb101) (o := .cells #[.int .i64 a0_0, .int .i64 a0_1, .int .i64 a0_2, .slice A0_3 l0_3.length c0_3, .slice A0_4 l0_4.length c0_4, .slice A0_5 l0_5.length c0_5] 40 (0, 0)) qz9_ hb); have n1_ := am_ (blk_below (g := gb102) (o := .cells #[.int .i64 0, .int .i64 0, .int .i64 0, .slice none 0 0, .slice none 0 0, .slice none 0 0] 46 (0, 0)) qz26_ hb); have n2_ := am_ (below_step qz27_ hb); have n3_ := am_ (hbox); have n4_ := am_ ((by rw [hg]; exact (below_size qz27_) : w.heap.size ≤ gb103)); have n5_ := am_ ((by rw [hg]; exact (below_size qz27_) : w.heap.size ≤ gb103)); have n6_ := am_ ((by rw [hg]; exact Nat.ne_of_lt (blk_lt (g := gb101) (o := .cells #[.int .i64 a0_0, .int .i64 a0_1, .int .i64 a0_2, .slice A0_3 l0_3.length c0_3, .slice A0_4 l0_4.length c0_4, .slice A0_5 l0_5.length c0_5] 40 (0, 0)) qz9_) : gb101 ≠ gb103)); have n7_ := am_ ((by rw [hg]; exact Nat.ne_of_gt (blk_lt (g := gb101) (o := .cells #[.int .i64 a0_0, .int .i64 a0_1, .int .i64 a0_2, .slice A0_3 l0_3.length c0_3, .slice A0_4 l0_4.length c0_4, .slice A0_5 l0_5.length c0_5] 40 (0, 0)) qz9_) : gb103 ≠ gb101)); have n8_ := am_ ((by rw [hg]; exact Nat.ne_of_lt (blk_lt (g := gb102) (o := .cells #[.int .i64 0, .int .i64 0, .int .i64 0, .slice none 0 0, .slice none 0 0, .slice none 0 0] 46 (0, 0)) qz26_) : gb102 ≠ gb103)); have n9_ := am_ ((by rw [hg]; exact Nat.ne_of_gt (blk_lt (g := gb102) (o := .cells #[.int .i64 0, .int .i64 0, .int .i64 0, .slice none 0 0, .slice none 0 0, .slice none 0 0] 46 (0, 0)) qz26_) : gb103 ≠ gb102)); clear BK101; clear BK102; clear HB; have BK101 := n0_; have BK102 := n1_; have HB := n2_; have BK103 := n3_; have GW103 := n4_; have GE103 := n5_; have NB101_103 := n6_; have NB103_101 := n7_; have NB102_103 := n8_; have NB103_102 := n9_; clear n0_ n1_ n2_ n3_ n4_ n5_ n6_ n7_ n8_ n9_; clear hb hbox hg; have hnb8 := NB101_102.out; have hnc8 := NB102_101.out; have hnb9 := NB101_103.out; have hnc9 := NB103_101.out; have hcz10_0 : w7.cell? ⟨gb101, 0, none⟩ = some (.int .i64 a0_0) := (blk_cell BK101.out 0).trans rfl; have hcz10_1 : w7.cell? ⟨gb101, 1, none⟩ = some (.int .i64 a0_1) := (blk_cell BK101.out 1).trans rfl; have hcz10_2 : w7.cell? ⟨gb101, 2, none⟩ = some (.int .i64 a0_2) := (blk_cell BK101.out 2).trans rfl; have hcz10_3 : w7.cell? ⟨gb101, 3, none⟩ = some (.slice A0_3 l0_3.length c0_3) := (blk_cell BK101.out 3).trans rfl; have hcz10_4 : w7.cell? ⟨gb101, 4, none⟩ = some (.slice A0_4 l0_4.length c0_4) := (blk_cell BK101.out 4).trans rfl; have hcz10_5 : w7.cell? ⟨gb101, 5, none⟩ = some (.slice A0_5 l0_5.length c0_5) := (blk_cell BK101.out 5).trans rfl; have hfz10_0 := blk_frozen BK101.out 0; have hfz10_1 := blk_frozen BK101.out 1; have hfz10_2 := blk_frozen BK101.out 2; have hfz10_3 := blk_frozen BK101.out 3; have hfz10_4 := blk_frozen BK101.out 4; have hfz10_5 := blk_frozen BK101.out 5; have hnb11 := NB103_102.out; have hnc11 := NB102_103.out; have hcz12_0 : w7.cell? ⟨gb103, 0, none⟩ = some (.int .i64 0) := (blk_cell BK103.out 0).trans rfl; have hcz12_1 : w7.cell? ⟨gb103, 1, none⟩ = some (.int .i64 0) := (blk_cell BK103.out 1).trans rfl; have hcz12_2 : w7.cell? ⟨gb103, 2, none⟩ = some (.int .i64 0) := (blk_cell BK103.out 2).trans rfl; have hcz12_3 : w7.cell? ⟨gb103, 3, none⟩ = some (.slice none 0 0) := (blk_cell BK103.out 3).trans rfl; have hcz12_4 : w7.cell? ⟨gb103, 4, none⟩ = some (.slice none 0 0) := (blk_cell BK103.out 4).trans rfl; have hcz12_5 : w7.cell? ⟨gb103, 5, none⟩ = some (.slice none 0 0) := (blk_cell BK103.out 5).trans rfl; have hfz12_0 := blk_frozen BK103.out 0; have hfz12_1 := blk_frozen BK103.out 1; have hfz12_2 := blk_frozen BK103.out 2; have hfz12_3 := blk_frozen BK103.out 3; have hfz12_4 := blk_frozen BK103.out 4; have hfz12_5 := blk_frozen BK103.out 5) | ((with_reducible refine gate_callee (f := 54) rfl ?_); refine goesL_ (some 15) rfl rfl Try.func54 (by kernel_rfl) rfl #[.slice A0_3 l0_3.length c0_3] rfl qz3_ ?_; (with_reducible refine (laws_toEntryS.calls k _ _ l0_3 t104 _ ?side1 ?side2 A2.out).mono ?_); (case side1 => exact Kd.C_below HR0_3.out qz28_); (case side2 => exact HC0_3.out); rintro e w13 ⟨v105, rfl, ho0, hb⟩; refine ⟨_, rfl, ?_⟩; have n0_ := am_ (Kd.R_lower ho0 (below_size qz28_)); have n1_ := am_ (blk_below (g := gb101) (o := .cells #[.int .i64 a0_0, .int .i64 a0_1, .int .i64 a0_2, .slice A0_3 l0_3.length c0_3, .slice A0_4 l0_4.length c0_4, .slice A0_5 l0_5.length c0_5] 40 (0, 0)) (by (with_reducible repeat (first | refine blk_drewN ?_ _ | refine blk_drew ?_ | refine blk_alloc ?_ _)); refine blk_far ?_ NB101_103.out _; (with_reducible repeat (first | refine blk_drewN ?_ _ | refine blk_drew ?_ | refine blk_alloc ?_ _)); refine blk_far ?_ NB101_103.out _; (with_reducible repeat (first | refine blk_drewN ?_ _ | refine blk_drew ?_ | refine blk_alloc ?_ _)); refine blk_far ?_ NB101_103.out _; (with_reducible repeat (first | refine blk_drewN ?_ _ | refine blk_drew ?_ | refine blk_alloc ?_ _)); exact BK101.out) hb); have n2_ := am_ (blk_below (g := gb102) (o := .cells #[.int .i64 0, .int .i64 0, .int .i64 0, .slice none 0 0, .slice none 0 0, .slice none 0 0] 46 (0, 0)) (by (with_reducible repeat (first | refine blk_drewN ?_ _ | refine blk_drew ?_ | refine blk_alloc ?_ _)); refine blk_far ?_ NB102_103.out _; (with_reducible repeat (first | refine blk_drewN ?_ _ | refine blk_drew ?_ | refine blk_alloc ?_ _)); refine blk_far ?_ NB102_103.out _; (with_reducible repeat (first | refine blk_drewN ?_ _ | refine blk_drew ?_ | refine blk_alloc ?_ _)); refine blk_far ?_ NB102_103.out _; (with_reducible repeat (first | refine blk_drewN ?_ _ | refine blk_drew ?_ | refine blk_alloc ?_ _)); exact BK102.out) hb); have n3_ := am_ (blk_below (g := gb103) (o := .cells #[.int .i64 a0_0, .int .i64 a0_1, .int .i64 a0_2, .slice none 0 0, .slice none 0 0, .slice none 0 0] 46 (0, 0)) (by (with_reducible repeat (first | refine blk_drewN ?_ _ | refine blk_drew ?_ | refine blk_alloc ?_ _)); refine blk_put (cs := #[.int .i64 a0_0, .int .i64 a0_1, .int .i64 0, .slice none 0 0, .slice none 0 0, .slice none 0 0]) ?_ 2 _ rfl; (with_reducible repeat (first | refine blk_drewN ?_ _ | refine blk_drew ?_ | refine blk_alloc ?_ _)); refine blk_put (cs := #[.int .i64 a0_0, .int .i64 0, .int .i64 0, .slice none 0 0, .slice none 0 0, .slice none 0 0]) ?_ 1 _ rfl; (with_reducible repeat (first | refine blk_drewN ?_ _ | refine blk_drew ?_ | refine blk_alloc ?_ _)); refine blk_put (cs := #[.int .i64 0, .int .i64 0, .int .i64 0, .slice none 0 0, .slice none 0 0, .slice none 0 0]) ?_ 0 _ rfl; (with_reducible repeat (first | refine blk_drewN ?_ _ | refine blk_drew ?_ | refine blk_alloc ?_ _)); exact BK103.out) hb); have n4_ := am_ (below_step qz28_ hb); clear BK101; clear BK102; clear BK103; clear HB; have HO106 := n0_; have BK101 := n1_; have BK102 := n2_; have BK103 := n3_; have HB := n4_; clear n0_ n1_ n2_ n3_ n4_; (try clear hb); (try clear hb2); (try clear hk); (try clear hi); (try clear ho0); obtain ⟨Ao14, co14, eo14⟩ := Kd.R_slice HO106.out; subst eo14; have hcz15_0 : w13.cell? ⟨gb103, 0, none⟩ = some (.int .i64 a0_0) := (blk_cell BK103.out 0).trans rfl; have hcz15_1 : w13.cell? ⟨gb103, 1, none⟩ = some (.int .i64 a0_1) := (blk_cell BK103.out 1).trans rfl; have hcz15_2 : w13.cell? ⟨gb103, 2, none⟩ = some (.int .i64 a0_2) := (blk_cell BK103.out 2).trans rfl; have hcz15_3 : w13.cell? ⟨gb103, 3, none⟩ = some (.slice none 0 0) := (blk_cell BK103.out 3).trans rfl; have hcz15_4 : w13.cell? ⟨gb103, 4, none⟩ = some (.slice none 0 0) := (blk_cell BK103.out 4).trans rfl; have hcz15_5 : w13.cell? ⟨gb103, 5, none⟩ = some (.slice none 0 0) := (blk_cell BK103.out 5).trans rfl; have hfz15_0 := blk_frozen BK103.out 0; have hfz15_1 := blk_frozen BK103.out 1; have hfz15_2 := blk_frozen BK103.out 2; have hfz15_3 := blk_frozen BK103.out 3; have hfz15_4 := blk_frozen BK103.out 4; have hfz15_5 := blk_frozen BK103.out 5; have hcz16_0 : w13.cell? ⟨gb101, 0, none⟩ = some (.int .i64 a0_0) := (blk_cell BK101.out 0).trans rfl; have hcz16_1 : w13.cell? ⟨gb101, 1, none⟩ = some (.int .i64 a0_1) := (blk_cell BK101.out 1).trans rfl; have hcz16_2 : w13.cell? ⟨gb101, 2, none⟩ = some (.int .i64 a0_2) := (blk_cell BK101.out 2).trans rfl; have hcz16_3 : w13.cell? ⟨gb101, 3, none⟩ = some (.slice A0_3 l0_3.length c0_3) := (blk_cell BK101.out 3).trans rfl; have hcz16_4 : w13.cell? ⟨gb101, 4, none⟩ = some (.slice A0_4 l0_4.length c0_4) := (blk_cell BK101.out 4).trans rfl; have hcz16_5 : w13.cell? ⟨gb101, 5, none⟩ = some (.slice A0_5 l0_5.length c0_5) := (blk_cell BK101.out 5).trans rfl; have hfz16_0 := blk_frozen BK101.out 0; have hfz16_1 := blk_frozen BK101.out 1; have hfz16_2 := blk_frozen BK101.out 2; have hfz16_3 := blk_frozen BK101.out 3; have hfz16_4 := blk_frozen BK101.out 4; have hfz16_5 := blk_frozen BK101.out 5) | ((with_reducible refine gate_callee (f := 54) rfl ?_); refine goesL_ (some 19) rfl rfl Try.func54 (by kernel_rfl) rfl #[.slice A0_4 l0_4.length c0_4] rfl qz3_ ?_; (with_reducible refine (laws_toEntryS.calls k _ _ l0_4 t107 _ ?side1 ?side2 A3.out).mono ?_); (case side1 => exact Kd.C_below HR0_4.out qz28_); (case side2 => exact HC0_4.out); rintro e w17 ⟨v108, rfl, ho0, hb⟩; refine ⟨_, rfl, ?_⟩; have n0_ := am_ (Kd.R_elder' (by (with_reducible repeat (first | apply Kd.R_alloc | apply Kd.R_drewN | apply Kd.R_drew)); exact (Kd.R_mono (Kd.R_far (p := ⟨gb103, 3, none⟩) (Kd.R_types HO106.out BK103.out (by decide)) (fun _ hk => hk.2) (.slice Ao14 t104.length co14)) (fun _ h_ => h_.1))) (Kd.R_base ho0) hb); have n1_ := am_ (Kd.R_lower (Kd.R_new' ho0 (Kd.R_lt (by (with_reducible repeat (first | apply Kd.R_alloc | apply Kd.R_drewN | apply Kd.R_drew)); exact (Kd.R_mono (Kd.R_far (p := ⟨gb103, 3, none⟩) (Kd.R_types HO106.out BK103.out (by decide)) (fun _ hk => hk.2) (.slice Ao14 t104.length co14)) (fun _ h_ => h_.1))))) (below_size qz28_)); have n2_ := am_ (blk_below (g := gb101) (o := .cells #[.int .i64 a0_0, .int .i64 a0_1, .int .i64 a0_2, .slice A0_3 l0_3.length c0_3, .slice A0_4 l0_4.length c0_4, .slice A0_5 l0_5.length c0_5] 40 (0, 0)) (by (with_reducible repeat (first | refine blk_drewN ?_ _ | refine blk_drew ?_ | refine blk_alloc ?_ _)); refine blk_far ?_ NB101_103.out _; (with_reducible repeat (first | refine blk_drewN ?_ _ | refine blk_drew ?_ | refine blk_alloc ?_ _)); exact BK101.out) hb); have n3_ := am_ (blk_below (g := gb102) (o := .cells #[.int .i64 0, .int .i64 0, .int .i64 0, .slice none 0 0, .slice none 0 0, .slice none 0 0] 46 (0, 0)) (by (with_reducible repeat (first | refine blk_drewN ?_ _ | refine blk_drew ?_ | refine blk_alloc ?_ _)); refine blk_far ?_ NB102_103.out _; (with_reducible repeat (first | refine blk_drewN ?_ _ | refine blk_drew ?_ | refine blk_alloc ?_ _)); exact BK102.out) hb); have n4_ := am_ (blk_below (g := gb103) (o := .cells #[.int .i64 a0_0, .int .i64 a0_1, .int .i64 a0_2, .slice Ao14 t104.length co14, .slice none 0 0, .slice none 0 0] 46 (0, 0)) (by (with_reducible repeat (first | refine blk_drewN ?_ _ | refine blk_drew ?_ | refine blk_alloc ?_ _)); refine blk_put (cs := #[.int .i64 a0_0, .int .i64 a0_1, .int .i64 a0_2, .slice none 0 0, .slice none 0 0, .slice none 0 0]) ?_ 3 _ rfl; (with_reducible repeat (first | refine blk_drewN ?_ _ | refine blk_drew ?_ | refine blk_alloc ?_ _)); exact BK103.out) hb); have n5_ := am_ (below_step qz28_ hb); clear HO106; clear BK101; clear BK102; clear BK103; clear HB; have HO106 := n0_; have HO109 := n1_; have BK101 := n2_; have BK102 := n3_; have BK103 := n4_; have HB := n5_; clear n0_ n1_ n2_ n3_ n4_ n5_; (try clear hb); (try clear hb2); (try clear hk); (try clear hi); (try clear ho0); obtain ⟨Ao18, co18, eo18⟩ := Kd.R_slice HO109.out; subst eo18; have hcz19_0 : w17.cell? ⟨gb103, 0, none⟩ = some (.int .i64 a0_0) := (blk_cell BK103.out 0).trans rfl; have hcz19_1 : w17.cell? ⟨gb103, 1, none⟩ = some (.int .i64 a0_1) := (blk_cell BK103.out 1).trans rfl; have hcz19_2 : w17.cell? ⟨gb103, 2, none⟩ = some (.int .i64 a0_2) := (blk_cell BK103.out 2).trans rfl; have hcz19_3 : w17.cell? ⟨gb103, 3, none⟩ = some (.slice Ao14 t104.length co14) := (blk_cell BK103.out 3).trans rfl; have hcz19_4 : w17.cell? ⟨gb103, 4, none⟩ = some (.slice none 0 0) := (blk_cell BK103.out 4).trans rfl; have hcz19_5 : w17.cell? ⟨gb103, 5, none⟩ = some (.slice none 0 0) := (blk_cell BK103.out 5).trans rfl; have hfz19_0 := blk_frozen BK103.out 0; have hfz19_1 := blk_frozen BK103.out 1; have hfz19_2 := blk_frozen BK103.out 2; have hfz19_3 := blk_frozen BK103.out 3; have hfz19_4 := blk_frozen BK103.out 4; have hfz19_5 := blk_frozen BK103.out 5; have hcz20_0 : w17.cell? ⟨gb101, 0, none⟩ = some (.int .i64 a0_0) := (blk_cell BK101.out 0).trans rfl; have hcz20_1 : w17.cell? ⟨gb101, 1, none⟩ = some (.int .i64 a0_1) := (blk_cell BK101.out 1).trans rfl; have hcz20_2 : w17.cell? ⟨gb101, 2, none⟩ = some (.int .i64 a0_2) := (blk_cell BK101.out 2).trans rfl; have hcz20_3 : w17.cell? ⟨gb101, 3, none⟩ = some (.slice A0_3 l0_3.length c0_3) := (blk_cell BK101.out 3).trans rfl; have hcz20_4 : w17.cell? ⟨gb101, 4, none⟩ = some (.slice A0_4 l0_4.length c0_4) := (blk_cell BK101.out 4).trans rfl; have hcz20_5 : w17.cell? ⟨gb101, 5, none⟩ = some (.slice A0_5 l0_5.length c0_5) := (blk_cell BK101.out 5).trans rfl; have hfz20_0 := blk_frozen BK101.out 0; have hfz20_1 := blk_frozen BK101.out 1; have hfz20_2 := blk_frozen BK101.out 2; have hfz20_3 := blk_frozen BK101.out 3; have hfz20_4 := blk_frozen BK101.out 4; have hfz20_5 := blk_frozen BK101.out 5) | ((with_reducible refine gate_callee (f := 54) rfl ?_); refine goesL_ (some 23) rfl rfl Try.func54 (by kernel_rfl) rfl #[.slice A0_5 l0_5.length c0_5] rfl qz3_ ?_; (with_reducible refine (laws_toEntryS.calls k _ _ l0_5 t110 _ ?side1 ?side2 A4.out).mono ?_); (case side1 => exact Kd.C_below HR0_5.out qz28_); (case side2 => exact HC0_5.out); rintro e w21 ⟨v111, rfl, ho0, hb⟩; refine ⟨_, rfl, ?_⟩; have n0_ := am_ (Kd.R_elder' (by (with_reducible repeat (first | apply Kd.R_alloc | apply Kd.R_drewN | apply Kd.R_drew)); exact (Kd.R_mono (Kd.R_far (p := ⟨gb103, 4, none⟩) (Kd.R_types HO106.out BK103.out (by decide)) (fun _ hk => hk.2) (.slice Ao18 t107.length co18)) (fun _ h_ => h_.1))) (Kd.R_base ho0) hb); have n1_ := am_ (Kd.R_elder' (by (with_reducible repeat (first | apply Kd.R_alloc | apply Kd.R_drewN | apply Kd.R_drew)); exact (Kd.R_mono (Kd.R_far (p := ⟨gb103, 4, none⟩) (Kd.R_types HO109.out BK103.out (by decide)) (fun _ hk => hk.2) (.slice Ao18 t107.length co18)) (fun _ h_ => h_.1))) (Kd.R_base ho0) hb); have n2_ := am_ (Kd.R_lower (Kd.R_new' (Kd.R_new' ho0 (Kd.R_lt (by (with_reducible repeat (first | apply Kd.R_alloc | apply Kd.R_drewN | apply Kd.R_drew)); exact (Kd.R_mono (Kd.R_far (p := ⟨gb103, 4, none⟩) (Kd.R_types HO106.out BK103.out (by decide)) (fun _ hk => hk.2) (.slice Ao18 t107.length co18)) (fun _ h_ => h_.1))))) (Kd.R_lt (by (with_reducible repeat (first | apply Kd.R_alloc | apply Kd.R_drewN | apply Kd.R_drew)); exact (Kd.R_mono (Kd.R_far (p := ⟨gb103, 4, none⟩) (Kd.R_types HO109.out BK103.out (by decide)) (fun _ hk => hk.2) (.slice Ao18 t107.length co18)) (fun _ h_ => h_.1))))) (below_size qz28_)); have n3_ := am_ (blk_below (g := gb101) (o := .cells #[.int .i64 a0_0, .int .i64 a0_1, .int .i64 a0_2, .slice A0_3 l0_3.length c0_3, .slice A0_4 l0_4.length c0_4, .slice A0_5 l0_5.length c0_5] 40 (0, 0)) (by (with_reducible repeat (first | refine blk_drewN ?_ _ | refine blk_drew ?_ | refine blk_alloc ?_ _)); refine blk_far ?_ NB101_103.out _; (with_reducible repeat (first | refine blk_drewN ?_ _ | refine blk_drew ?_ | refine blk_alloc ?_ _)); exact BK101.out) hb); have n4_ := am_ (blk_below (g := gb102) (o := .cells #[.int .i64 0, .int .i64 0, .int .i64 0, .slice none 0 0, .slice none 0 0, .slice none 0 0] 46 (0, 0)) (by (with_reducible repeat (first | refine blk_drewN ?_ _ | refine blk_drew ?_ | refine blk_alloc ?_ _)); refine blk_far ?_ NB102_103.out _; (with_reducible repeat (first | refine blk_drewN ?_ _ | refine blk_drew ?_ | refine blk_alloc ?_ _)); exact BK102.out) hb); have n5_ := am_ (blk_below (g := gb103) (o := .cells #[.int .i64 a0_0, .int .i64 a0_1, .int .i64 a0_2, .slice Ao14 t104.length co14, .slice Ao18 t107.length co18, .slice none 0 0] 46 (0, 0)) (by (with_reducible repeat (first | refine blk_drewN ?_ _ | refine blk_drew ?_ | refine blk_alloc ?_ _)); refine blk_put (cs := #[.int .i64 a0_0, .int .i64 a0_1, .int .i64 a0_2, .slice Ao14 t104.length co14, .slice none 0 0, .slice none 0 0]) ?_ 4 _ rfl; (with_reducible repeat (first | refine blk_drewN ?_ _ | refine blk_drew ?_ | refine blk_alloc ?_ _)); exact BK103.out) hb); have n6_ := am_ (below_step qz28_ hb); clear HO106; clear HO109; clear BK101; clear BK102; clear BK103; clear HB; have HO106 := n0_; have HO109 := n1_; have HO112 := n2_; have BK101 := n3_; have BK102 := n4_; have BK103 := n5_; have HB := n6_; clear n0_ n1_ n2_ n3_ n4_ n5_ n6_; (try clear hb); (try clear hb2); (try clear hk); (try clear hi); (try clear ho0); obtain ⟨Ao22, co22, eo22⟩ := Kd.R_slice HO112.out; subst eo22; have hcz23_0 : w21.cell? ⟨gb103, 0, none⟩ = some (.int .i64 a0_0) := (blk_cell BK103.out 0).trans rfl; have hcz23_1 : w21.cell? ⟨gb103, 1, none⟩ = some (.int .i64 a0_1) := (blk_cell BK103.out 1).trans rfl; have hcz23_2 : w21.cell? ⟨gb103, 2, none⟩ = some (.int .i64 a0_2) := (blk_cell BK103.out 2).trans rfl; have hcz23_3 : w21.cell? ⟨gb103, 3, none⟩ = some (.slice Ao14 t104.length co14) := (blk_cell BK103.out 3).trans rfl; have hcz23_4 : w21.cell? ⟨gb103, 4, none⟩ = some (.slice Ao18 t107.length co18) := (blk_cell BK103.out 4).trans rfl; have hcz23_5 : w21.cell? ⟨gb103, 5, none⟩ = some (.slice none 0 0) := (blk_cell BK103.out 5).trans rfl; have hfz23_0 := blk_frozen BK103.out 0; have hfz23_1 := blk_frozen BK103.out 1; have hfz23_2 := blk_frozen BK103.out 2; have hfz23_3 := blk_frozen BK103.out 3; have hfz23_4 := blk_frozen BK103.out 4; have hfz23_5 := blk_frozen BK103.out 5; have hcz24_0 : w21.cell? ⟨gb102, 0, none⟩ = some (.int .i64 0) := (blk_cell BK102.out 0).trans rfl; have hcz24_1 : w21.cell? ⟨gb102, 1, none⟩ = some (.int .i64 0) := (blk_cell BK102.out 1).trans rfl; have hcz24_2 : w21.cell? ⟨gb102, 2, none⟩ = some (.int .i64 0) := (blk_cell BK102.out 2).trans rfl; have hcz24_3 : w21.cell? ⟨gb102, 3, none⟩ = some (.slice none 0 0) := (blk_cell BK102.out 3).trans rfl; have hcz24_4 : w21.cell? ⟨gb102, 4, none⟩ = some (.slice none 0 0) := (blk_cell BK102.out 4).trans rfl; have hcz24_5 : w21.cell? ⟨gb102, 5, none⟩ = some (.slice none 0 0) := (blk_cell BK102.out 5).trans rfl; have hfz24_0 := blk_frozen BK102.out 0; have hfz24_1 := blk_frozen BK102.out 1; have hfz24_2 := blk_frozen BK102.out 2; have hfz24_3 := blk_frozen BK102.out 3; have hfz24_4 := blk_frozen BK102.out 4; have hfz24_5 := blk_frozen BK102.out 5))
 refine bodyPost_ret (results_cell_row rfl _ _ gb102 46 #[.int .i64 a0_0, .int .i64 a0_1, .int .i64 a0_2, .slice Ao14 t104.length co14, .slice Ao18 t107.length co18, .slice Ao22 t110.length co22] (0, 0) _ rfl (by (with_reducible repeat (first | refine blk_drewN ?_ _ | refine blk_drew ?_ | refine blk_alloc ?_ _)); refine blk_put (cs := #[.int .i64 a0_0, .int .i64 a0_1, .int .i64 a0_2, .slice Ao14 t104.length co14, .slice Ao18 t107.length co18, .slice none 0 0]) ?_ 5 _ rfl; (with_reducible repeat (first | refine blk_drewN ?_ _ | refine blk_drew ?_ | refine blk_alloc ?_ _)); refine blk_put (cs := #[.int .i64 a0_0, .int .i64 a0_1, .int .i64 a0_2, .slice Ao14 t104.length co14, .slice none 0 0, .slice none 0 0]) ?_ 4 _ rfl; (with_reducible repeat (first | refine blk_drewN ?_ _ | refine blk_drew ?_ | refine blk_alloc ?_ _)); refine blk_put (cs := #[.int .i64 a0_0, .int .i64 a0_1, .int .i64 a0_2, .slice none 0 0, .slice none 0 0, .slice none 0 0]) ?_ 3 _ rfl; (with_reducible repeat (first | refine blk_drewN ?_ _ | refine blk_drew ?_ | refine blk_alloc ?_ _)); refine blk_put (cs := #[.int .i64 a0_0, .int .i64 a0_1, .int .i64 0, .slice none 0 0, .slice none 0 0, .slice none 0 0]) ?_ 2 _ rfl; (with_reducible repeat (first | refine blk_drewN ?_ _ | refine blk_drew ?_ | refine blk_alloc ?_ _)); refine blk_put (cs := #[.int .i64 a0_0, .int .i64 0, .int .i64 0, .slice none 0 0, .slice none 0 0, .slice none 0 0]) ?_ 1 _ rfl; (with_reducible repeat (first | refine blk_drewN ?_ _ | refine blk_drew ?_ | refine blk_alloc ?_ _)); refine blk_put (cs := #[.int .i64 0, .int .i64 0, .int .i64 0, .slice none 0 0, .slice none 0 0, .slice none 0 0]) ?_ 0 _ rfl; (with_reducible repeat (first | refine blk_drewN ?_ _ | refine blk_drew ?_ | refine blk_alloc ?_ _)); refine blk_far ?_ NB102_103.out _; (with_reducible repeat (first | refine blk_drewN ?_ _ | refine blk_drew ?_ | refine blk_alloc ?_ _)); exact BK102.out) Try.underlying46 rfl (by kernel_rfl)) rfl ?_
 exact ⟨_, _, _, by first | rfl | (simp [errW_none, errW_some] <;> rfl) | (simp [*, errW_none, errW_some] <;> rfl), by (with_reducible repeat (first | apply Kd.R_alloc | apply Kd.R_drewN | apply Kd.R_drew)); exact Kd.R_mono (Kd.R_far (p := ⟨gb102, 5, none⟩) (Kd.R_far (p := ⟨gb102, 4, none⟩) (Kd.R_far (p := ⟨gb102, 3, none⟩) (Kd.R_far (p := ⟨gb102, 2, none⟩) (Kd.R_far (p := ⟨gb102, 1, none⟩) (Kd.R_far (p := ⟨gb102, 0, none⟩) (Kd.R_far (p := ⟨gb103, 5, none⟩) (Kd.R_types (Kd.R_types HO106.out BK103.out (by decide)) BK102.out (by decide)) (fun _ hk => hk.1.2) (.slice Ao22 t110.length co22)) (fun _ hk => hk.2) (.int .i64 a0_0)) (fun _ hk => hk.2) (.int .i64 a0_1)) (fun _ hk => hk.2) (.int .i64 a0_2)) (fun _ hk => hk.2) (.slice Ao14 t104.length co14)) (fun _ hk => hk.2) (.slice Ao18 t107.length co18)) (fun _ hk => hk.2) (.slice Ao22 t110.length co22)) (fun _ hk => ⟨hk.1.1.1.2, hk.1.1.2⟩), by (with_reducible repeat (first | apply Kd.R_alloc | apply Kd.R_drewN | apply Kd.R_drew)); exact Kd.R_mono (Kd.R_far (p := ⟨gb102, 5, none⟩) (Kd.R_far (p := ⟨gb102, 4, none⟩) (Kd.R_far (p := ⟨gb102, 3, none⟩) (Kd.R_far (p := ⟨gb102, 2, none⟩) (Kd.R_far (p := ⟨gb102, 1, none⟩) (Kd.R_far (p := ⟨gb102, 0, none⟩) (Kd.R_far (p := ⟨gb103, 5, none⟩) (Kd.R_types (Kd.R_types HO109.out BK103.out (by decide)) BK102.out (by decide)) (fun _ hk => hk.1.2) (.slice Ao22 t110.length co22)) (fun _ hk => hk.2) (.int .i64 a0_0)) (fun _ hk => hk.2) (.int .i64 a0_1)) (fun _ hk => hk.2) (.int .i64 a0_2)) (fun _ hk => hk.2) (.slice Ao14 t104.length co14)) (fun _ hk => hk.2) (.slice Ao18 t107.length co18)) (fun _ hk => hk.2) (.slice Ao22 t110.length co22)) (fun _ hk => ⟨hk.1.1.1.2, hk.1.1.2⟩), by (with_reducible repeat (first | apply Kd.R_alloc | apply Kd.R_drewN | apply Kd.R_drew)); exact Kd.R_mono (Kd.R_far (p := ⟨gb102, 5, none⟩) (Kd.R_far (p := ⟨gb102, 4, none⟩) (Kd.R_far (p := ⟨gb102, 3, none⟩) (Kd.R_far (p := ⟨gb102, 2, none⟩) (Kd.R_far (p := ⟨gb102, 1, none⟩) (Kd.R_far (p := ⟨gb102, 0, none⟩) (Kd.R_far (p := ⟨gb103, 5, none⟩) (Kd.R_types (Kd.R_types HO112.out BK103.out (by decide)) BK102.out (by decide)) (fun _ hk => hk.1.2) (.slice Ao22 t110.length co22)) (fun _ hk => hk.2) (.int .i64 a0_0)) (fun _ hk => hk.2) (.int .i64 a0_1)) (fun _ hk => hk.2) (.int .i64 a0_2)) (fun _ hk => hk.2) (.slice Ao14 t104.length co14)) (fun _ hk => hk.2) (.slice Ao18 t107.length co18)) (fun _ hk => hk.2) (.slice Ao22 t110.length co22)) (fun _ hk => ⟨hk.1.1.1.2, hk.1.1.2⟩), by repeat (first | (with_reducible first | exact HB.out | apply below_alloc | apply pw_below_drewN | apply below_drew1 | refine below_set ?_ GE101.out | refine below_set ?_ GE102.out | refine below_set ?_ GE103.out) | exact HB.out)⟩

end Go.Proofs.Ytgookagndlfehaa.PT
end
section
/- Own parts of memory: what later texts need besides. -/
namespace Go.Proofs.Ytgookagndlfehaa.PT
open Go.RowKit Go.Proofs.YtgookagndlfehaaW.PrintWords Go.Proofs.YtgookagndlfehaaW.PrintLast Go.Proofs.YtgookagndlfehaaW.PrintMore
set_option linter.unusedVariables false
set_option linter.unusedSimpArgs false
namespace Inv
variable {w0 w w1 : World} {P : Nat → Prop} {L : List Grp} {F : World → Prop}
theorem kept0 {α : Type} {d : Kd α} {e b : Nat} {v v1 : Value} {xs ys : List α} {S ok : Nat → Prop} (h : Inv w0 NoB w (row d e b v xs S :: L) F) (hB : Below w0.heap.size w0 w1) (hk : Kept w w1 S) (hR : d.R e w1 b ok v1 ys) (hok : ∀ k, ok k → S k ∨ w.heap.size ≤ k) :
  Inv w0 NoB w1 (row d e b v1 ys (fun k => (S k ∨ w.heap.size ≤ k) ∧ k < w1.heap.size) :: L) F := by
 have hR2 : d.R e w1 b (fun k => (S k ∨ w.heap.size ≤ k) ∧ k < w1.heap.size) v1 ys := Kd.R_mono (Kd.R_bound hR) (fun k hk => ⟨hok k hk.1, hk.2.2.1⟩)
 have hb := h.below
 exact h.step ⟨hB.os.trans hb.os.symm, hB.tape.trans hb.tape.symm, hB.output.trans hb.output.symm, hk.1, fun k hlt hn => hk.2 k hlt hn⟩ _ (fun k hk => hk) (fun w' hw => Kd.R_step hR2 (fun k hk _ => hw k hk))
end Inv
end Go.Proofs.Ytgookagndlfehaa.PT
end
section
/- A constant text's bytes: the literal's row bears a mark; what is appended makes a new row. -/
namespace Go.Proofs.Ytgookagndlfehaa.PT
open Go.RowKit Go.Proofs.YtgookagndlfehaaW.PrintWords Go.Proofs.YtgookagndlfehaaW.PrintLast Go.Proofs.YtgookagndlfehaaW.PrintMore
set_option linter.unusedVariables false
set_option linter.unusedSimpArgs false
theorem freeze_at {w : World} {g n : Nat} {c : Array Value} {t : TypeId} (h : w.heap[g]? = some (.cells c t (0, 0))) : (w.freeze ⟨g, n, none⟩ 1).heap[g]? = some (.cells c t (n, n + 1)) := by
 simp [World.freeze, Array.getElem?_modify, h]
theorem freeze_old {w : World} {g n k : Nat} (h : g ≠ k) : (w.freeze ⟨g, n, none⟩ 1).heap[k]? = w.heap[k]? := by
 simp [World.freeze, Array.getElem?_modify, h]
theorem freeze_size {w : World} {g n : Nat} : (w.freeze ⟨g, n, none⟩ 1).heap.size = w.heap.size := by
 simp [World.freeze]
theorem conv_lit (W : World) (xs : List Int) (hl : xs.length ≤ 1000000) : ∃ w2, (convert 22 22 (.slice (some ⟨W.heap.size, 0, none⟩) xs.length xs.length)).run Try.prog (W.alloc (.cells (nums .u8 xs).toArray 5)) = .ok (.slice (some ⟨W.heap.size, 0, none⟩) xs.length xs.length) w2 ∧
  RowT w2 W.heap.size (.slice (some ⟨W.heap.size, 0, none⟩) xs.length xs.length) xs ∧ Below W.heap.size W w2 := by
 have hu := run_underlying (P := Try.prog) Try.underlying22
 have hv := run_underlying (P := Try.prog) Try.underlying5
 have hsh : (W.alloc (.cells (nums .u8 xs).toArray 5)).shape? W.heap.size = some (5, xs.length) := by
  unfold World.shape?
  rw [heap_alloc_new]
  simp [nums]
 have hg : ((W.alloc (.cells (nums .u8 xs).toArray 5)).freeze ⟨W.heap.size, xs.length, none⟩ 1).heap[W.heap.size]? = some (.cells (nums .u8 xs).toArray 5 (xs.length, xs.length + 1)) := by
  exact freeze_at (heap_alloc_new W _)
 refine ⟨(W.alloc (.cells (nums .u8 xs).toArray 5)).freeze ⟨W.heap.size, xs.length, none⟩ 1, ?_, ⟨W.heap.size, xs.length, (nums .u8 xs).toArray, (xs.length, xs.length + 1), rfl, Nat.le_refl _, hg, ?_, Nat.le_refl _, (by unfold maxLen; omega), (by simp [nums]), ?_⟩, ⟨rfl, rfl, rfl, ?_, fun k hk => ?_⟩⟩
 ·
  simp [convert, hu, hv, markStringish, hsh, Result.andThen]
 ·
  intro j hj hh
  exact absurd hh.1 (Nat.not_le.2 hj)
 ·
  rw [List.take_of_length_le (by simp [nums])]
 ·
  rw [freeze_size]; simp
 ·
  rw [freeze_old (by omega)]
  exact hao W _ hk
theorem RowT.grow {W : World} {base g n : Nat} {xs ys : List Int} (h : RowT W base (.slice (some ⟨g, 0, none⟩) n n) xs) {A : Option Addr} {c : Nat} (hC : (Kd.int .u8).C W A ys.length ys) (hm : 0 < ys.length) (hl : xs.length + ys.length ≤ 1000000) (ty : TypeId) :
  ∃ v1 w1, (Builtin.append_ #[22, 22] ty #[.slice (some ⟨g, 0, none⟩) n n, .slice A ys.length c]).run Try.prog W = .ok v1 w1 ∧ Kd.R (Kd.int .u8) 5 w1 W.heap.size (fun _ => True) v1 (xs ++ ys) ∧ Below W.heap.size W w1 := by
 obtain ⟨i, hi, hz0, hz1, hz2⟩ := info_parts info5
 have hu := Try.underlying22
 obtain ⟨g', cap, cur, fz, e, hb, hg, hf, hn, hcm, hs, ht⟩ := id h
 injection e with e1 e2 e3
 injection e1 with e1
 injection e1 with e1 _ _
 subst e1
 subst e2
 subst e3
 obtain ⟨_, _, hr⟩ := hC
 obtain ⟨ad, rfl, hc⟩ := hr hm
 have hnews : ∀ j u, (nums .u8 ys)[j]? = some u → W.cell? (ad.add j) = some u := by
  intro j u hj
  have hjl : j < ys.length := by have := (List.getElem?_eq_some_iff.1 hj).1; rwa [nmL] at this
  obtain ⟨cc, hcl, hK, hcells⟩ := hc j (ys[j]) (by simp [hjl])
  have h2 : cc = [.int .u8 ys[j]] := hK
  subst h2
  have h3 := hcells 0 _ rfl
  rw [show (Kd.int .u8).sz = 1 from rfl, Nat.mul_one, Nat.add_zero] at h3
  rw [h3, ← hj]
  simp [nums, hjl]
 have holds : ∀ j u, (nums .u8 xs)[j]? = some u → W.cell? ((⟨g, 0, none⟩ : Addr).add j) = some u := by
  intro j u hj
  have hjl : j < xs.length := by have := (List.getElem?_eq_some_iff.1 hj).1; rwa [nmL] at this
  rw [add_plain, (h.cell (by simp [Value.ownBlock]) hjl).1, ← hj]
  simp [nums, List.getD, hjl]
 have hr := run_append_grow (P := Try.prog) W 22 ty 5 i (.int .u8 0) hu hi hz0 ⟨g, 0, none⟩ xs.length xs.length (nums .u8 xs) (by rw [nmL, hz1, Nat.mul_one]) holds ad ys.length c (nums .u8 ys) (by rw [nmL, hz1, Nat.mul_one]) hnews (by omega) (by omega) (growslice_fits (by omega) (by rw [hz2]; omega))
 have hge := grownCap_ge W (xs.length + ys.length) xs.length 5
 have hle := grownCap_le_maxLen W (xs.length + ys.length) xs.length 5 (by unfold maxLen; omega)
 refine ⟨_, _, hr, ?_, below_alloc (below_drew (Below.refl _ _)) _⟩
 refine ⟨fun _ _ => trivial, nums .u8 (xs ++ ys), ⟨by rw [nmL]; exact (Nat.mul_one _).symm, .inr ⟨W.heap.size, _, _, (by rw [List.length_append]), Nat.le_refl _, heap_alloc_new _ _, (by rw [List.length_append]; exact hge), hle, ?_, ?_⟩⟩, ?_⟩
 ·
  simp only [Array.size_append, List.size_toArray, nmL, size_zeroCells]
  simp [Value.cells, Kd.int, Kd.scalar]
  omega
 ·
  have e2 : (xs ++ ys).length * (Kd.int .u8).sz = (nums .u8 (xs ++ ys)).length := by rw [nmL]; exact Nat.mul_one _
  rw [e2, show nums .u8 (xs ++ ys) = nums .u8 xs ++ nums .u8 ys by simp [nums]]
  simp only [Array.toList_append]
  exact List.take_left
 ·
  exact Kd.reps_scalar (enc := Value.int .u8) (xs ++ ys)
section
variable {ops : Array Oper} {o : Oper} {rest : List Oper} {a : Act} {Q : Exit → Act → World → Prop}
theorem wpT_grow {W : World} {base g n : Nat} (hgd : o.guard = none) (s x : Operand) (ho : o.op = .call { callee := .builtin .append, args := #[s, x], argTypes := #[22, 22] }) (xs ys : List Int) {A : Option Addr} {c : Nat} (hs : a.eval s = .slice (some ⟨g, 0, none⟩) n n) (hx : a.eval x = .slice A ys.length c)
  (h : RowT W base (.slice (some ⟨g, 0, none⟩) n n) xs) (hC : (Kd.int .u8).C W A ys.length ys) (hm : 0 < ys.length) (hl : xs.length + ys.length ≤ 1000000)
  (k : ∀ v1 w1, Kd.R (Kd.int .u8) 5 w1 W.heap.size (fun _ => True) v1 (xs ++ ys) → Below W.heap.size W w1 → wpList Try.prog ops Q rest (a.put o.dst v1) w1) : wpList Try.prog ops Q (o :: rest) a W := by
 obtain ⟨v1, w1, hr, h1, hb⟩ := h.grow hC hm hl o.type (c := c)
 refine wpList_plain hgd fun K hK => ?_
 unfold Oper.wp execOp
 simp only [ho, resolve, invoke, builtin, Sem.run_bind, Sem.run_pure, Result.andThen_ok, List.map_toArray, List.map_cons, List.map_nil, hs, hx, hr]
 exact hK _ _ (k v1 w1 h1 hb)
end
def impl_four.f (l0 : List Int) (a1 : Int) : Option (List Int) := (some (([(a1 / 16777216) % 256, (a1 / 65536) % 256, (a1 / 256) % 256, (a1) % 256] : List Int) : List Int)).bind fun y101 => (if l0.length + y101.length < 140737488355328 then (some (l0 ++ y101)) else (none))
set_option maxHeartbeats 8000000 in
set_option maxRecDepth 100000 in
theorem impl_four.calls (P0_ : Nat → Prop) (u9000_ : Value) (l0 : List Int) (a1 : Int) (r : List Int) (w0 w : World) (hB : Below w0.heap.size w0 w) (ho0 : Kd.R (Kd.int .u8) 5 w w0.heap.size P0_ u9000_ l0) (h : impl_four.f l0 a1 = some r) :
  Calls Try.prog 88 #[u9000_, .int .i64 a1] w fun e w' => ∃ v0_ : Value, e = .returned (v0_) ∧ Kd.R (Kd.int .u8) 5 w' w0.heap.size (fun k_ => (P0_ k_ ∨ w.heap.size ≤ k_)) v0_ r ∧ Below w0.heap.size w0 w' ∧ Kept w w' (fun k_ => P0_ k_) := by
 have HO0 := am_ (show Kd.R (Kd.int .u8) 5 w w0.heap.size (fun k_ => (P0_ k_ ∨ w.heap.size ≤ k_)) u9000_ l0 from Kd.R_mono ho0 (fun k_ hk => (.inl hk)))
 have HK := am_ (Kept.refl w (fun k_ => P0_ k_))
 have HW0 := am_ hB.size
 have HB := am_ hB
 clear hB
 have H : ((some (([(a1 / 16777216) % 256, (a1 / 65536) % 256, (a1 / 256) % 256, (a1) % 256] : List Int) : List Int)).bind fun y101 => (if l0.length + y101.length < 140737488355328 then (some (l0 ++ y101)) else (none))) = some r := h
 clear h
 obtain ⟨y101, hy101⟩ : ∃ y_ : List Int, y_ = (([(a1 / 16777216) % 256, (a1 / 65536) % 256, (a1 / 256) % 256, (a1) % 256] : List Int)) := ⟨_, rfl⟩
 replace H : (if l0.length + y101.length < 140737488355328 then (some (l0 ++ y101)) else (none)) = some r := by first | (rw [hy101]; with_reducible exact H) | (have H2_ := (Option.bind_some _ _).symm.trans H; rw [hy101]; with_reducible exact H2_) | (have H2_ := (Option.bind_some _ _).symm.trans H; with_reducible exact H2_) | with_reducible exact H | (rw [hy101]; exact H) | exact H
 have Ny101 := am_ hy101
 clear hy101
 by_cases c3 : l0.length + y101.length < 140737488355328
 ·
  rw [if_pos c3] at H
  have LMc3 := am_ c3
  clear c3
  obtain ⟨y104, hy104⟩ : ∃ y_ : List Int, y_ = (l0 ++ y101) := ⟨_, rfl⟩
  replace H : (some y104) = some r := by first | (rw [hy104]; with_reducible exact H) | (have H2_ := (Option.bind_some _ _).symm.trans H; rw [hy104]; with_reducible exact H2_) | (have H2_ := (Option.bind_some _ _).symm.trans H; with_reducible exact H2_) | with_reducible exact H | (rw [hy104]; exact H) | exact H
  have Ny104 := am_ hy104
  clear hy104
  obtain rfl := Option.some.inj H
  go_enter Try.func88, Try.ntmps88
  go_wp2_with (first | ((with_reducible refine gate_dst (N := 17) rfl ?_); refine Kd.R_lit (Kd.int .u8) _ 5 ?hg (N := 17) ?hd (xs := ([(a1 / 16777216) % 256, (a1 / 65536) % 256, (a1 / 256) % 256, (a1) % 256] : List Int)) (inner := [.int .u8 ((a1 / 16777216) % 256), .int .u8 ((a1 / 65536) % 256), .int .u8 ((a1 / 256) % 256), .int .u8 ((a1) % 256)]) (ok := fun _ => True) (okp := fun _ => True) ?hr ?hp (fun _ hk => hk) trivial (Below.refl _ _) (Nat.le_refl _) (by simp) ?_; (case hd => rfl); (case hg => rfl); (case hr => first | (go_simp; done) | (go_simp; rfl)); (case hp => exact (Reps.one (show Kd.M (Kd.int .u8) _ _ _ ((a1 / 16777216) % 256) [.int .u8 ((a1 / 16777216) % 256)] from rfl) (Reps.one (show Kd.M (Kd.int .u8) _ _ _ ((a1 / 65536) % 256) [.int .u8 ((a1 / 65536) % 256)] from rfl) (Reps.one (show Kd.M (Kd.int .u8) _ _ _ ((a1 / 256) % 256) [.int .u8 ((a1 / 256) % 256)] from rfl) (Reps.one (show Kd.M (Kd.int .u8) _ _ _ ((a1) % 256) [.int .u8 ((a1) % 256)] from rfl) (Reps.none _ _)))))); intro v102 w4 ho5 hb hg_ hnew_; clear hg_ hnew_; (first | rw [← Ny101.out] at ho5 | (simp only [Int.reduceToNat] at ho5; rw [← Ny101.out] at ho5)); have n0_ := am_ (Kd.R_elder' (by (with_reducible repeat (first | apply Kd.R_alloc | apply Kd.R_drewN | apply Kd.R_drew)); exact HO0.out) (Kd.R_base ho5) hb); have n1_ := am_ (Kd.R_lower (Kd.R_new' (Kd.R_newM (M := fun k_ => (P0_ k_ ∨ w.heap.size ≤ k_)) ho5 (by first | exact HK.out.1 | exact (show Kept w _ (fun k_ => P0_ k_) from by repeat (first | (with_reducible first | exact HK.out | apply Kept.alloc | apply Kept.drewN | apply Kept.drew) | exact HK.out)).1) (fun k_ h_ => .inr h_)) (Kd.R_lt (by (with_reducible repeat (first | apply Kd.R_alloc | apply Kd.R_drewN | apply Kd.R_drew)); exact HO0.out))) (below_size qz2_)); have n2_ := am_ (Kept.below (S := (fun k_ => P0_ k_)) (by repeat (first | (with_reducible first | exact HK.out | apply Kept.alloc | apply Kept.drewN | apply Kept.drew) | exact HK.out)) hb); have n3_ := am_ (below_step qz2_ hb); clear HO0; clear HK; clear HB; have HO0 := n0_; have HO103 := n1_; have HK := n2_; have HB := n3_; clear n0_ n1_ n2_ n3_; clear hb ho5; obtain ⟨Ao7, co7, eo7⟩ := Kd.R_slice HO103.out; subst eo7) | ((with_reducible refine gate_builtin (b := .append) (xs := #[.tmp 5, .tmp 17]) rfl ?_); at_builtin; refine Kd.R_append_rows (Kd.int .u8) (w0 := w0) w0.heap.size rfl (.tmp 5) (.tmp 17) 22 5 (.int .u8 0) 1 rfl Try.underlying22 info5 rfl (by decide) (by omega) u9000_ l0 y101 _ _ _ (fun k_ => (P0_ k_ ∨ w.heap.size ≤ k_) ∧ some k_ ≠ (.slice Ao7 y101.length co7 : Value).ownBlock) (fun _ => False) rfl rfl ?aO ?aR (fun _ _ h => h) (fun _ h => h.elim) ?aF ?aB ?aS ?aL ?_; (case aR => exact qc_ (Kd.R_reads' HO103.out).2.2); (case aB => exact qz2_); (case aF => exact (fun k_ hk => ⟨(.inr (Nat.le_trans (by first | exact HK.out.1 | exact (show Kept w _ (fun k_ => P0_ k_) from by repeat (first | (with_reducible first | exact HK.out | apply Kept.alloc | apply Kept.drewN | apply Kept.drew) | exact HK.out)).1) hk)), Kd.fresh' (Kd.R_lt (by (with_reducible repeat (first | apply Kd.R_alloc | apply Kd.R_drewN | apply Kd.R_drew)); exact HO103.out)) k_ hk⟩)); (case aO => exact (by (with_reducible repeat (first | apply Kd.R_alloc | apply Kd.R_drewN | apply Kd.R_drew)); exact HO0.out)); (case aS => exact (below_size qz2_)); (case aL => have := LMc3.out; omega); intro v105 w6 ho hb hg hat; rw [← Ny104.out] at ho; have n0_ := am_ (Kd.R_after (ok := (fun k_ => (P0_ k_ ∨ w.heap.size ≤ k_))) (by (with_reducible repeat (first | apply Kd.R_alloc | apply Kd.R_drewN | apply Kd.R_drew)); exact Kd.R_mono HO103.out (fun _ hk => ⟨hk.1.1, hk.2⟩)) hg hat); have n1_ := am_ (hb); have n2_ := am_ (Kept.of_grown (S := (fun k_ => P0_ k_)) hg (by repeat (first | (with_reducible first | exact HK.out | apply Kept.alloc | apply Kept.drewN | apply Kept.drew) | exact HK.out)) (fun k_ e_ => (HO0.out.1 k_ e_).1)); have n3_ := am_ (ho); clear HO103; clear HB; clear HK; clear HO0; have HO103 := n0_; have HB := n1_; have HK := n2_; have HO106 := n3_; clear n0_ n1_ n2_ n3_; clear ho hb hg hat))
  go_ret
  exact ⟨_, qz4_, (by (with_reducible repeat (first | apply Kd.R_alloc | apply Kd.R_drewN | apply Kd.R_drew)); exact Kd.R_mono HO106.out (fun _ hk => hk.1)), qz2_, (by repeat (first | (with_reducible first | exact HK.out | apply Kept.alloc | apply Kept.drewN | apply Kept.drew) | exact HK.out))⟩
 ·
  rw [if_neg c3] at H
  exact absurd H (by simp)

end Go.Proofs.Ytgookagndlfehaa.PT
end
section
/- What the hashes of several pieces need: a constant's row at any place, pieces as a literal row, a number's four bytes. -/
namespace Go.Proofs.Ytgookagndlfehaa.PT
open Go.RowKit Go.Proofs.YtgookagndlfehaaW.PrintWords Go.Proofs.YtgookagndlfehaaW.PrintLast Go.Proofs.YtgookagndlfehaaW.PrintMore
set_option linter.unusedVariables false
set_option linter.unusedSimpArgs false
def four_ (n : Int) : List Int := [(n / 16777216) % 256, (n / 65536) % 256, (n / 256) % 256, n % 256]
theorem four_eq {l : List Int} {n : Int} (h : l.length + 4 < 140737488355328) : impl_four.f l n = some (l ++ four_ n) := by
 unfold impl_four.f
 exact if_pos h
theorem four_length (n : Int) : (four_ n).length = 4 := rfl
theorem conv_mark {W : World} {gl : Nat} {xs : List Int} (hg : W.heap[gl]? = some (.cells (nums .u8 xs).toArray 5 (0, 0))) (hl : xs.length ≤ 1000000) :
  (convert 22 22 (.slice (some ⟨gl, 0, none⟩) xs.length xs.length)).run Try.prog W = .ok (.slice (some ⟨gl, 0, none⟩) xs.length xs.length) (W.freeze ⟨gl, xs.length, none⟩ 1) ∧
  (∀ w', w'.heap[gl]? = (W.freeze ⟨gl, xs.length, none⟩ 1).heap[gl]? → (Kd.int .u8).C w' (some ⟨gl, 0, none⟩) xs.length xs) := by
 have hu := run_underlying (P := Try.prog) Try.underlying22
 have hv := run_underlying (P := Try.prog) Try.underlying5
 have hsh : W.shape? gl = some (5, xs.length) := by
  unfold World.shape?
  rw [hg]
  simp [nums]
 refine ⟨?_, fun w' hw => ?_⟩
 ·
  simp [convert, hu, hv, markStringish, hsh, Result.andThen]
 ·
  rw [freeze_at hg] at hw
  have hR : RowT w' gl (.slice (some ⟨gl, 0, none⟩) xs.length xs.length) xs := ⟨gl, xs.length, (nums .u8 xs).toArray, (xs.length, xs.length + 1), rfl, Nat.le_refl _, hw, fun j hj hh => absurd hh.1 (Nat.not_le.2 hj), Nat.le_refl _, (by unfold maxLen; omega), (by simp [nums]), (by rw [List.take_of_length_le (by simp [nums])])⟩
  obtain ⟨A, c, e, _, hC⟩ := hR.reads
  injection e with e1 e2 e3
  rw [e1]
  exact hC
namespace Inv
variable {w0 w w1 : World} {P : Nat → Prop} {L : List Grp} {F : World → Prop}
theorem marked {gl : Nat} {xs : List Int} (h : Inv w0 P w (blk gl 5 (nums .u8 xs).toArray :: L) F) (hl : xs.length ≤ 1000000) :
  Inv w0 P (w.freeze ⟨gl, xs.length, none⟩ 1) L (fun w => (Kd.int .u8).C w (some ⟨gl, 0, none⟩) xs.length xs ∧ F w) := by
 have hm := (conv_mark h.blk0 hl).2
 have h2 : Inv w0 P (w.freeze ⟨gl, xs.length, none⟩ 1) (⟨fun k => k = gl, fun w => (Kd.int .u8).C w (some ⟨gl, 0, none⟩) xs.length xs⟩ :: L) F :=
  h.step (w1 := w.freeze ⟨gl, xs.length, none⟩ 1) ⟨rfl, rfl, rfl, (by rw [freeze_size]; exact Nat.le_refl _), fun k _ hn => freeze_old (fun e => hn e.symm)⟩ ⟨fun k => k = gl, fun w => (Kd.int .u8).C w (some ⟨gl, 0, none⟩) xs.length xs⟩ (fun k hk => ⟨.inl hk, (by rw [freeze_size]; obtain rfl : k = gl := hk; exact blk_lt h.blk0)⟩) (fun w' hw => hm w' (hw gl rfl))
 exact h2.freeze
end Inv
def Piece (v : Value) (xs : List Int) (w : World) : Prop := ∃ A c, v = .slice A xs.length c ∧ xs.length ≤ c ∧ (Kd.int .u8).C w A xs.length xs
namespace Inv
variable {w0 w w1 : World} {P : Nat → Prop} {L : List Grp} {F : World → Prop}
theorem mark_ev {gl : Nat} {xs : List Int} (h : Inv w0 P w (blk gl 5 (nums .u8 xs).toArray :: L) F) (hl : xs.length ≤ 1000000) :
  ∃ w1, (convert 22 22 (.slice (some ⟨gl, 0, none⟩) xs.length xs.length)).run Try.prog w = .ok (.slice (some ⟨gl, 0, none⟩) xs.length xs.length) w1 ∧ Inv w0 P w1 L (fun w => Piece (.slice (some ⟨gl, 0, none⟩) xs.length xs.length) xs w ∧ F w) :=
 ⟨_, (conv_mark h.blk0 hl).1, (h.marked hl).weaken (fun _ h => ⟨⟨_, _, rfl, Nat.le_refl _, h.1⟩, h.2⟩)⟩
theorem conv_ev {t : ByteArray} (h : Inv w0 P w L F) (hl : t.size ≤ 2000000) :
  ∃ v w1, (convert 9 22 (.string t)).run Try.prog w = .ok v w1 ∧ Inv w0 P w1 L (fun w => Piece v (nums_ t) w ∧ F w) := by
 have hr := Go.Lib.run_convert_string_bytes (P := Try.prog) w 9 22 5 t Try.underlying9 Try.underlying22 Try.underlying5
 exact ⟨_, _, hr, (h.pushT (bytes_below w t) (RowT.bytes w t hl)).freeze.weaken (fun _ h => ⟨by obtain ⟨A, c, e, hc, hC⟩ := RowT.reads h.1; exact ⟨A, c, e, hc, hC⟩, h.2⟩)⟩
theorem lit_ev (h : Inv w0 P w L F) (cs : Array Value) (t : TypeId) : Inv w0 P (w.alloc (.cells cs t)) (blk w.heap.size t cs :: L) F :=
 h.box rfl (heap_alloc_new _ _) (below_alloc (Below.refl _ _) _)
theorem four_ev (h : Inv w0 P w L F) (n : Int) : Calls Try.prog 88 #[.slice none 0 0, .int .i64 n] w (fun e w1 => ∃ v, e = .returned v ∧ Inv w0 P w1 L (fun w => Piece v (four_ n) w ∧ F w)) := by
 refine (impl_four.calls (fun _ => True) (.slice none 0 0) [] n (four_ n) w w (Below.refl _ _) (Kd.R_nil _ _ _ _ _) (four_eq (by decide))).mono ?_
 rintro e w1 ⟨v, rfl, hR, hb, _⟩
 obtain ⟨A, c, rfl, hc, HI⟩ := h.rowKnow hb hR
 exact ⟨_, rfl, HI.weaken (fun _ h => ⟨⟨A, c, rfl, hc, h.1⟩, h.2⟩)⟩
end Inv
theorem pieces_lit {W : World} {T : TypeId} {vs : List Value} {ps : List (List Int)} (h : ∀ j (hj : j < ps.length), ∃ v, vs[j]? = some v ∧ Piece v ps[j] W) : Pieces (W.alloc (.cells vs.toArray T)) (some ⟨W.heap.size, 0, none⟩) ps := by
 intro j hj
 obtain ⟨v, hv, A, c, rfl, _, hC⟩ := h j hj
 refine ⟨_, A, c, rfl, ?_, Kd.C_alloc hC _⟩
 rw [add_plain, World.cell?_alloc_new]
 simpa using hv
theorem pieces3 {W : World} {T : TypeId} {v0 v1 v2 : Value} {a b c : List Int} (h0 : Piece v0 a W) (h1 : Piece v1 b W) (h2 : Piece v2 c W) : Pieces (W.alloc (.cells #[v0, v1, v2] T)) (some ⟨W.heap.size, 0, none⟩) [a, b, c] :=
 pieces_lit (vs := [v0, v1, v2]) (fun j hj => by
  match j, hj with
  | 0, _ => exact ⟨v0, rfl, h0⟩
  | 1, _ => exact ⟨v1, rfl, h1⟩
  | 2, _ => exact ⟨v2, rfl, h2⟩)
theorem pieces4 {W : World} {T : TypeId} {v0 v1 v2 v3 : Value} {a b c d : List Int} (h0 : Piece v0 a W) (h1 : Piece v1 b W) (h2 : Piece v2 c W) (h3 : Piece v3 d W) : Pieces (W.alloc (.cells #[v0, v1, v2, v3] T)) (some ⟨W.heap.size, 0, none⟩) [a, b, c, d] :=
 pieces_lit (vs := [v0, v1, v2, v3]) (fun j hj => by
  match j, hj with
  | 0, _ => exact ⟨v0, rfl, h0⟩
  | 1, _ => exact ⟨v1, rfl, h1⟩
  | 2, _ => exact ⟨v2, rfl, h2⟩
  | 3, _ => exact ⟨v3, rfl, h3⟩)
def impl_in.f (a0 : Int) (a1 : Int) (a2 : Int) : Option (Bool) := if a1 ≤ a0 then (some (decide (a0 ≤ a2))) else (some false)
set_option maxHeartbeats 8000000 in
set_option maxRecDepth 100000 in
theorem impl_in.calls (a0 : Int) (a1 : Int) (a2 : Int) (r : Bool) (w : World) (h : impl_in.f a0 a1 a2 = some r) :
  Calls Try.prog 44 #[.int .i64 a0, .int .i64 a1, .int .i64 a2] w fun e w' => e = .returned (.bool r) ∧ Drawn0 w w' := by
 have H : (if a1 ≤ a0 then (some (decide (a0 ≤ a2))) else (some false)) = some r := h
 clear h
 by_cases c4 : a1 ≤ a0
 ·
  rw [if_pos c4] at H
  have c4b0 : decide (a1 ≤ a0) = true := decide_eq_true c4
  clear c4
  obtain rfl := Option.some.inj H
  go_enter Try.func44, Try.ntmps44
  go_wp2
  go_ret
  exact ⟨qz0_, qz1_⟩
 ·
  rw [if_neg c4] at H
  have c4b0 : decide (a1 ≤ a0) = false := decide_eq_false c4
  clear c4
  obtain rfl := Option.some.inj H
  go_enter Try.func44, Try.ntmps44
  go_wp2
  go_ret
  exact ⟨qz0_, qz1_⟩

def impl_System_half.f (a0_0 : Int) (a0_1 : Int) (a0_2 : Int) (l0_3 : List (S126)) (l0_4 : List (S126)) (l0_5 : List (S126)) : Option (Int) := if 0 ≤ (wrap64 (a0_1 - 1)) then (some (shl .i64 1 (wrap64 (a0_1 - 1)))) else (none)
set_option maxHeartbeats 8000000 in
set_option maxRecDepth 100000 in
theorem impl_System_half.calls (a0_0 : Int) (a0_1 : Int) (a0_2 : Int) (A0_3 : Option Addr) (c0_3 : Nat) (l0_3 : List (S126)) (A0_4 : Option Addr) (c0_4 : Nat) (l0_4 : List (S126)) (A0_5 : Option Addr) (c0_5 : Nat) (l0_5 : List (S126)) (r : Int) (w : World) (hr0_3 : Kd.C k126 w A0_3 l0_3.length l0_3) (hc0_3 : l0_3.length ≤ c0_3) (hr0_4 : Kd.C k126 w A0_4 l0_4.length l0_4) (hc0_4 : l0_4.length ≤ c0_4) (hr0_5 : Kd.C k126 w A0_5 l0_5.length l0_5) (hc0_5 : l0_5.length ≤ c0_5) (h : impl_System_half.f a0_0 a0_1 a0_2 l0_3 l0_4 l0_5 = some r) :
  Calls Try.prog 94 #[.agg #[.int .i64 a0_0, .int .i64 a0_1, .int .i64 a0_2, .slice A0_3 l0_3.length c0_3, .slice A0_4 l0_4.length c0_4, .slice A0_5 l0_5.length c0_5]] w fun e w' => e = .returned (.int .i64 r) ∧ Below w.heap.size w w' := by
 have hu46 := Try.underlying46
 have HR0_3 := am_ hr0_3
 have HC0_3 := am_ hc0_3
 clear hr0_3 hc0_3
 have HR0_4 := am_ hr0_4
 have HC0_4 := am_ hc0_4
 clear hr0_4 hc0_4
 have HR0_5 := am_ hr0_5
 have HC0_5 := am_ hc0_5
 clear hr0_5 hc0_5
 have HB := am_ (Below.refl w.heap.size w)
 have H : (if 0 ≤ (wrap64 (a0_1 - 1)) then (some (shl .i64 1 (wrap64 (a0_1 - 1)))) else (none)) = some r := h
 clear h
 obtain ⟨ji2, hji2⟩ : ∃ j_ : Int, (wrap64 (a0_1 - 1)) = j_ := ⟨_, rfl⟩
 replace H : (if 0 ≤ (ji2) then (some (shl .i64 1 (ji2))) else (none)) = some r := by first | (rw [hji2] at H; exact H) | (simp only [hji2] at H ⊢; exact H)
 have hji2w : (IntKind.i64.wrap (a0_1 - 1)) = ji2 := (i64_w _).trans hji2
 by_cases c3 : 0 ≤ (ji2)
 ·
  rw [if_pos c3] at H
  have c3b0 := eq_true c3
  have c3b1 : decide (0 ≤ (ji2)) = true := decide_eq_true c3
  clear c3
  obtain ⟨ji4, hji4⟩ : ∃ j_ : Int, (shl .i64 1 (ji2)) = j_ := ⟨_, rfl⟩
  replace H : (some ji4) = some r := by first | (rw [hji4] at H; exact H) | (simp only [hji4] at H ⊢; exact H)
  have hji4_ : (IntKind.i64.wrap (1 * 2 ^ min (ji2).toNat 64)) = ji4 := hji4
  have hji4z : (ji2) ≤ 64 → (IntKind.i64.wrap (1 * 2 ^ (ji2).toNat)) = ji4 := shl_small hji4
  have hji4u : (IntKind.i64.wrap (2 ^ min (ji2).toNat 64)) = ji4 := by have h_ := hji4_; rw [Int.one_mul] at h_; exact h_
  have hji4v : (ji2) ≤ 64 → (IntKind.i64.wrap (2 ^ (ji2).toNat)) = ji4 := fun hle_ => by have h_ := hji4z hle_; rw [Int.one_mul] at h_; exact h_
  have hji4y : (wrap64 (1 * 2 ^ min (ji2).toNat 64)) = ji4 := (i64_w _).symm.trans hji4_
  have hji4x : (ji2) ≤ 64 → (wrap64 (1 * 2 ^ (ji2).toNat)) = ji4 := fun h_ => (i64_w _).symm.trans (hji4z h_)
  obtain rfl := Option.some.inj H
  go_enter Try.func94, Try.ntmps94
  go_wp2_with (first | ((with_reducible refine gate_dst (N := 1) rfl ?_); refine box_event ?hg (N := 1) ?hd (cs := #[.int .i64 a0_0, .int .i64 a0_1, .int .i64 a0_2, .slice A0_3 l0_3.length c0_3, .slice A0_4 l0_4.length c0_4, .slice A0_5 l0_5.length c0_5]) (t := 46) ?hr ?_; (case hd => rfl); (case hg => rfl); (case hr => first | (go_simp; done) | (go_simp; rfl)); intro gb101 hg w5 hbox hb; have n0_ := am_ (below_step qz2_ hb); have n1_ := am_ (hbox); have n2_ := am_ ((by rw [hg]; exact (below_size qz2_) : w.heap.size ≤ gb101)); have n3_ := am_ ((by rw [hg]; exact (below_size qz2_) : w.heap.size ≤ gb101)); clear HB; have HB := n0_; have BK101 := n1_; have GW101 := n2_; have GE101 := n3_; clear n0_ n1_ n2_ n3_; clear hb hbox hg; have hcz6_0 : w5.cell? ⟨gb101, 0, none⟩ = some (.int .i64 a0_0) := (blk_cell BK101.out 0).trans rfl; have hcz6_1 : w5.cell? ⟨gb101, 1, none⟩ = some (.int .i64 a0_1) := (blk_cell BK101.out 1).trans rfl; have hcz6_2 : w5.cell? ⟨gb101, 2, none⟩ = some (.int .i64 a0_2) := (blk_cell BK101.out 2).trans rfl; have hcz6_3 : w5.cell? ⟨gb101, 3, none⟩ = some (.slice A0_3 l0_3.length c0_3) := (blk_cell BK101.out 3).trans rfl; have hcz6_4 : w5.cell? ⟨gb101, 4, none⟩ = some (.slice A0_4 l0_4.length c0_4) := (blk_cell BK101.out 4).trans rfl; have hcz6_5 : w5.cell? ⟨gb101, 5, none⟩ = some (.slice A0_5 l0_5.length c0_5) := (blk_cell BK101.out 5).trans rfl; have hfz6_0 := blk_frozen BK101.out 0; have hfz6_1 := blk_frozen BK101.out 1; have hfz6_2 := blk_frozen BK101.out 2; have hfz6_3 := blk_frozen BK101.out 3; have hfz6_4 := blk_frozen BK101.out 4; have hfz6_5 := blk_frozen BK101.out 5))
  go_ret
  exact ⟨(by first | rfl | (simp [errW_none, errW_some] <;> rfl) | (simp only [← hji2, ← hji4]; first | rfl | (simp [errW_none, errW_some] <;> rfl)) | (simp [*, errW_none, errW_some] <;> rfl)), qz5_⟩
 ·
  rw [if_neg c3] at H
  exact absurd H (by simp)

def cmp_Or_int.l0 : Nat → Int → List Int → Int → Int → Option (Int)
 | 0, _, _, _, _ => none
 | k + 1, x3, x6, x7, x8 => if x8 < x7 then (if 0 ≤ x8 then (if x8 < (x6.length : Int) then (if (rd x6 x8) = x3 then (cmp_Or_int.l0 k x3 x6 x7 (wrap64 (x8 + 1))) else (some (rd x6 x8))) else (none)) else (none)) else (some x3)
def cmp_Or_int.f (k : Nat) (l0 : List Int) : Option (Int) := cmp_Or_int.l0 k 0 l0 (l0.length : Int) 0
theorem cmp_Or_int.mono_l : ∀ k, (∀ y0 y1 y2 y3, LeO (cmp_Or_int.l0 k y0 y1 y2 y3) (cmp_Or_int.l0 (k + 1) y0 y1 y2 y3))
 | 0 => fun _ _ _ _ r h => by simp [cmp_Or_int.l0] at h
 | k + 1 => by
  have ih0 := cmp_Or_int.mono_l k
  ·
   intro y0 y1 y2 y3
   unfold cmp_Or_int.l0
   repeat' first
   | (with_reducible exact ih0 _ _ _ _)
   | (with_reducible exact LeO.refl _)
   | (with_reducible exact LeO.none _)
   | (with_reducible refine LeO.ite ?_ ?_)
   | (with_reducible refine LeO.bind ?_ (fun _ => ?_))
   | exact ih0 _ _ _ _
   | exact LeO.none _
   | refine LeO.ite ?_ ?_
   | refine LeO.bind ?_ (fun _ => ?_)
theorem cmp_Or_int.mono : ∀ a0 k, LeO (cmp_Or_int.f k a0) (cmp_Or_int.f (k + 1) a0) := by
 intro a0 k
 have ih0 := cmp_Or_int.mono_l k
 unfold cmp_Or_int.f
 repeat' first
   | (with_reducible exact ih0 _ _ _ _)
   | (with_reducible exact LeO.refl _)
   | (with_reducible exact LeO.none _)
   | (with_reducible refine LeO.ite ?_ ?_)
   | (with_reducible refine LeO.bind ?_ (fun _ => ?_))
   | exact ih0 _ _ _ _
   | exact LeO.none _
   | refine LeO.ite ?_ ?_
   | refine LeO.bind ?_ (fun _ => ?_)
set_option maxHeartbeats 8000000 in
set_option maxRecDepth 100000 in
theorem cmp_Or_int.calls (k : Nat) (A0 : Option Addr) (c0 : Nat) (l0 : List Int) (r : Int) (w : World) (hr0 : Kd.C (Kd.int .i64) w A0 l0.length l0) (hc0 : l0.length ≤ c0) (h : cmp_Or_int.f k l0 = some r) :
  Calls Try.prog 163 #[.slice A0 l0.length c0] w fun e w' => e = .returned (.int .i64 r) ∧ Drawn0 w w' := by
 have HR0 := am_ hr0
 have HC0 := am_ hc0
 clear hr0 hc0
 have H : (cmp_Or_int.l0 k 0 l0 (l0.length : Int) 0) = some r := h
 clear h
 have H' := am_ H
 clear H
 go_enter Try.func163, Try.ntmps163
 go_wp2
 go_loopg [8] k (fun kq v8 w' => ∃ (x8_1 : Int), v8 = .int .i64 x8_1 ∧ Aside0 (cmp_Or_int.l0 kq 0 l0 (l0.length : Int) x8_1 = some r) ∧ Aside0 (kq ≤ k) ∧ Drawn0 w w')
 case atStart => exact ⟨(0), qz0_, H', ⟨Nat.le_refl _⟩, by repeat (first | exact Drawn0.refl _ | apply Drawn0.step)⟩
 case round =>
  clear H'
  try clear c1
  obtain ⟨x8_1, rfl, HA, HK1, ⟨m1, rfl⟩⟩ := hrel
  cases gk with
  | zero => exact absurd HA.out (by simp [cmp_Or_int.l0])
  | succ k1 =>
   have H := HA.out
   clear HA
   simp only [cmp_Or_int.l0] at H
   by_cases c2 : x8_1 < (l0.length : Int)
   ·
    rw [if_pos c2] at H
    have c2b0 : decide (x8_1 < (l0.length : Int)) = true := decide_eq_true c2
    clear c2
    by_cases c3 : 0 ≤ x8_1
    ·
     rw [if_pos c3] at H
     have c3b0 : decide (0 ≤ x8_1) = true := decide_eq_true c3
     clear c3
     by_cases c4 : x8_1 < (l0.length : Int)
     ·
      rw [if_pos c4] at H
      have c4b0 : decide (x8_1 < (l0.length : Int)) = true := decide_eq_true c4
      clear c4
      by_cases c5 : (rd l0 x8_1) = 0
      ·
       rw [if_pos c5] at H
       have c5b0 : ((rd l0 x8_1) == 0) = true := beq_iff_eq.mpr c5
       have c5b1 : ((rd l0 x8_1) != 0) = false := bne_eq_false_iff_eq.mpr c5
       clear c5
       have H' := am_ H
       clear H
       have p101 : 0 ≤ (x8_1 : Int) := of_decide_eq_true qz6_
       have q101 : x8_1 < (l0.length : Int) := of_decide_eq_true qz6_
       obtain ⟨ad101, e101, hx101_0⟩ := Kd.at_int HR0.out x8_1 p101 q101
       cases e101
       replace p101 := eq_true p101
       replace q101 := eq_true q101
       go_wp2
       go_roundg k1
       case measure => have := HK1.out; omega
       case rel => exact ⟨(wrap64 (x8_1 + 1)), qz0_, H', ⟨(by have := HK1.out; omega)⟩, by repeat (first | exact Drawn0.refl _ | apply Drawn0.step)⟩
      ·
       rw [if_neg c5] at H
       have c5b0 : ((rd l0 x8_1) == 0) = false := beq_eq_false_iff_ne.mpr c5
       have c5b1 : ((rd l0 x8_1) != 0) = true := bne_iff_ne.mpr c5
       obtain rfl := Option.some.inj H
       have p101 : 0 ≤ (x8_1 : Int) := of_decide_eq_true qz6_
       have q101 : x8_1 < (l0.length : Int) := of_decide_eq_true qz6_
       obtain ⟨ad101, e101, hx101_0⟩ := Kd.at_int HR0.out x8_1 p101 q101
       cases e101
       replace p101 := eq_true p101
       replace q101 := eq_true q101
       go_wp2
       go_ret
       exact ⟨qz0_, qz1_⟩
     ·
      rw [if_neg c4] at H
      exact absurd H (by simp)
    ·
     rw [if_neg c3] at H
     exact absurd H (by simp)
   ·
    rw [if_neg c2] at H
    have c2b0 : decide (x8_1 < (l0.length : Int)) = false := decide_eq_false c2
    clear c2
    obtain rfl := Option.some.inj H
    go_wp2
    go_ret
    exact ⟨qz0_, qz1_⟩

def cmp_isNaN_int.f (a0 : Int) : Option (Bool) := some (a0 != a0)
set_option maxHeartbeats 8000000 in
set_option maxRecDepth 100000 in
theorem cmp_isNaN_int.calls (a0 : Int) (r : Bool) (w : World) (h : cmp_isNaN_int.f a0 = some r) :
  Calls Try.prog 170 #[.int .i64 a0] w fun e w' => e = .returned (.bool r) ∧ Drawn0 w w' := by
 have H : (some (a0 != a0)) = some r := h
 clear h
 obtain rfl := Option.some.inj H
 go_enter Try.func170, Try.ntmps170
 go_wp2
 go_ret
 exact ⟨qz0_, qz1_⟩

def cmp_Compare_int.f (a0 : Int) (a1 : Int) : Option (Int) := (cmp_isNaN_int.f a0).bind fun t101 => ((cmp_isNaN_int.f a1).bind fun t102 => (if t101 = true then (if t102 = true then (some 0) else (some (-1))) else (if t102 = true then (some 1) else (if a0 < a1 then (some (-1)) else (if a0 > a1 then (some 1) else (some 0))))))
set_option maxHeartbeats 8000000 in
set_option maxRecDepth 100000 in
theorem cmp_Compare_int.calls (a0 : Int) (a1 : Int) (r : Int) (w : World) (h : cmp_Compare_int.f a0 a1 = some r) :
  Calls Try.prog 164 #[.int .i64 a0, .int .i64 a1] w fun e w' => e = .returned (.int .i64 r) ∧ Drawn0 w w' := by
 have H : ((cmp_isNaN_int.f a0).bind fun t101 => ((cmp_isNaN_int.f a1).bind fun t102 => (if t101 = true then (if t102 = true then (some 0) else (some (-1))) else (if t102 = true then (some 1) else (if a0 < a1 then (some (-1)) else (if a0 > a1 then (some 1) else (some 0))))))) = some r := h
 clear h
 replace H := Option.bind_eq_some_iff.mp H
 obtain ⟨t101, A30, H⟩ := H
 replace H : ((cmp_isNaN_int.f a1).bind fun t102 => (if t101 = true then (if t102 = true then (some 0) else (some (-1))) else (if t102 = true then (some 1) else (if a0 < a1 then (some (-1)) else (if a0 > a1 then (some 1) else (some 0)))))) = some r := H
 have A3 := am_ A30
 clear A30
 replace H := Option.bind_eq_some_iff.mp H
 obtain ⟨t102, A40, H⟩ := H
 replace H : (if t101 = true then (if t102 = true then (some 0) else (some (-1))) else (if t102 = true then (some 1) else (if a0 < a1 then (some (-1)) else (if a0 > a1 then (some 1) else (some 0))))) = some r := H
 have A4 := am_ A40
 clear A40
 by_cases c5 : t101 = true
 ·
  subst c5
  have H1 : (if t102 = true then (some 0) else (some (-1))) = some r := by rw [if_pos rfl] at H; exact H
  clear H
  have H := H1
  clear H1
  by_cases c6 : t102 = true
  ·
   subst c6
   have H1 : (some 0) = some r := by rw [if_pos rfl] at H; exact H
   clear H
   have H := H1
   clear H1
   obtain rfl := Option.some.inj H
   go_enter Try.func164, Try.ntmps164
   go_wp2_with (first | ((with_reducible refine gate_callee (f := 170) rfl ?_); refine goesL_ (some 8) rfl rfl Try.func170 (by kernel_rfl) rfl #[.int .i64 a0] rfl qz3_ ?_; (with_reducible refine (cmp_isNaN_int.calls a0 true _ A3.out).mono ?_); rintro e w' ⟨rfl, ⟨nd, rfl⟩⟩; refine ⟨_, rfl, ?_⟩) | ((with_reducible refine gate_callee (f := 170) rfl ?_); refine goesL_ (some 10) rfl rfl Try.func170 (by kernel_rfl) rfl #[.int .i64 a1] rfl qz3_ ?_; (with_reducible refine (cmp_isNaN_int.calls a1 true _ A4.out).mono ?_); rintro e w' ⟨rfl, ⟨nd, rfl⟩⟩; refine ⟨_, rfl, ?_⟩))
   go_ret
   exact ⟨qz0_, qz1_⟩
  ·
   replace c6 := Bool.eq_false_iff.mpr c6
   subst c6
   have H1 : (some (-1)) = some r := by rw [if_neg (show ¬ (false = true) by decide)] at H; exact H
   clear H
   have H := H1
   clear H1
   obtain rfl := Option.some.inj H
   go_enter Try.func164, Try.ntmps164
   go_wp2_with (first | ((with_reducible refine gate_callee (f := 170) rfl ?_); refine goesL_ (some 8) rfl rfl Try.func170 (by kernel_rfl) rfl #[.int .i64 a0] rfl qz3_ ?_; (with_reducible refine (cmp_isNaN_int.calls a0 true _ A3.out).mono ?_); rintro e w' ⟨rfl, ⟨nd, rfl⟩⟩; refine ⟨_, rfl, ?_⟩) | ((with_reducible refine gate_callee (f := 170) rfl ?_); refine goesL_ (some 10) rfl rfl Try.func170 (by kernel_rfl) rfl #[.int .i64 a1] rfl qz3_ ?_; (with_reducible refine (cmp_isNaN_int.calls a1 false _ A4.out).mono ?_); rintro e w' ⟨rfl, ⟨nd, rfl⟩⟩; refine ⟨_, rfl, ?_⟩))
   go_ret
   exact ⟨qz0_, qz1_⟩
 ·
  replace c5 := Bool.eq_false_iff.mpr c5
  subst c5
  have H1 : (if t102 = true then (some 1) else (if a0 < a1 then (some (-1)) else (if a0 > a1 then (some 1) else (some 0)))) = some r := by rw [if_neg (show ¬ (false = true) by decide)] at H; exact H
  clear H
  have H := H1
  clear H1
  by_cases c7 : t102 = true
  ·
   subst c7
   have H1 : (some 1) = some r := by rw [if_pos rfl] at H; exact H
   clear H
   have H := H1
   clear H1
   obtain rfl := Option.some.inj H
   go_enter Try.func164, Try.ntmps164
   go_wp2_with (first | ((with_reducible refine gate_callee (f := 170) rfl ?_); refine goesL_ (some 8) rfl rfl Try.func170 (by kernel_rfl) rfl #[.int .i64 a0] rfl qz3_ ?_; (with_reducible refine (cmp_isNaN_int.calls a0 false _ A3.out).mono ?_); rintro e w' ⟨rfl, ⟨nd, rfl⟩⟩; refine ⟨_, rfl, ?_⟩) | ((with_reducible refine gate_callee (f := 170) rfl ?_); refine goesL_ (some 10) rfl rfl Try.func170 (by kernel_rfl) rfl #[.int .i64 a1] rfl qz3_ ?_; (with_reducible refine (cmp_isNaN_int.calls a1 true _ A4.out).mono ?_); rintro e w' ⟨rfl, ⟨nd, rfl⟩⟩; refine ⟨_, rfl, ?_⟩))
   go_ret
   exact ⟨qz0_, qz1_⟩
  ·
   replace c7 := Bool.eq_false_iff.mpr c7
   subst c7
   have H1 : (if a0 < a1 then (some (-1)) else (if a0 > a1 then (some 1) else (some 0))) = some r := by rw [if_neg (show ¬ (false = true) by decide)] at H; exact H
   clear H
   have H := H1
   clear H1
   by_cases c8 : a0 < a1
   ·
    rw [if_pos c8] at H
    have c8b0 : decide (a0 < a1) = true := decide_eq_true c8
    clear c8
    obtain rfl := Option.some.inj H
    go_enter Try.func164, Try.ntmps164
    go_wp2_with (first | ((with_reducible refine gate_callee (f := 170) rfl ?_); refine goesL_ (some 8) rfl rfl Try.func170 (by kernel_rfl) rfl #[.int .i64 a0] rfl qz3_ ?_; (with_reducible refine (cmp_isNaN_int.calls a0 false _ A3.out).mono ?_); rintro e w' ⟨rfl, ⟨nd, rfl⟩⟩; refine ⟨_, rfl, ?_⟩) | ((with_reducible refine gate_callee (f := 170) rfl ?_); refine goesL_ (some 10) rfl rfl Try.func170 (by kernel_rfl) rfl #[.int .i64 a1] rfl qz3_ ?_; (with_reducible refine (cmp_isNaN_int.calls a1 false _ A4.out).mono ?_); rintro e w' ⟨rfl, ⟨nd, rfl⟩⟩; refine ⟨_, rfl, ?_⟩))
    go_ret
    exact ⟨qz0_, qz1_⟩
   ·
    rw [if_neg c8] at H
    have c8b0 : decide (a0 < a1) = false := decide_eq_false c8
    clear c8
    by_cases c9 : a0 > a1
    ·
     rw [if_pos c9] at H
     have c9b0 : decide (a1 < a0) = true := decide_eq_true c9
     clear c9
     obtain rfl := Option.some.inj H
     go_enter Try.func164, Try.ntmps164
     go_wp2_with (first | ((with_reducible refine gate_callee (f := 170) rfl ?_); refine goesL_ (some 8) rfl rfl Try.func170 (by kernel_rfl) rfl #[.int .i64 a0] rfl qz3_ ?_; (with_reducible refine (cmp_isNaN_int.calls a0 false _ A3.out).mono ?_); rintro e w' ⟨rfl, ⟨nd, rfl⟩⟩; refine ⟨_, rfl, ?_⟩) | ((with_reducible refine gate_callee (f := 170) rfl ?_); refine goesL_ (some 10) rfl rfl Try.func170 (by kernel_rfl) rfl #[.int .i64 a1] rfl qz3_ ?_; (with_reducible refine (cmp_isNaN_int.calls a1 false _ A4.out).mono ?_); rintro e w' ⟨rfl, ⟨nd, rfl⟩⟩; refine ⟨_, rfl, ?_⟩))
     go_ret
     exact ⟨qz0_, qz1_⟩
    ·
     rw [if_neg c9] at H
     have c9b0 : decide (a1 < a0) = false := decide_eq_false c9
     clear c9
     obtain rfl := Option.some.inj H
     go_enter Try.func164, Try.ntmps164
     go_wp2_with (first | ((with_reducible refine gate_callee (f := 170) rfl ?_); refine goesL_ (some 8) rfl rfl Try.func170 (by kernel_rfl) rfl #[.int .i64 a0] rfl qz3_ ?_; (with_reducible refine (cmp_isNaN_int.calls a0 false _ A3.out).mono ?_); rintro e w' ⟨rfl, ⟨nd, rfl⟩⟩; refine ⟨_, rfl, ?_⟩) | ((with_reducible refine gate_callee (f := 170) rfl ?_); refine goesL_ (some 10) rfl rfl Try.func170 (by kernel_rfl) rfl #[.int .i64 a1] rfl qz3_ ?_; (with_reducible refine (cmp_isNaN_int.calls a1 false _ A4.out).mono ?_); rintro e w' ⟨rfl, ⟨nd, rfl⟩⟩; refine ⟨_, rfl, ?_⟩))
     go_ret
     exact ⟨qz0_, qz1_⟩

def impl_Entry_order.f (k : Nat) (a0_0 : Int) (a0_1 : Int) (a0_2 : Int) (a1_0 : Int) (a1_1 : Int) (a1_2 : Int) : Option (Int) := (cmp_Compare_int.f a0_0 a1_0).bind fun t103 => ((cmp_Compare_int.f a0_1 a1_1).bind fun t104 => ((cmp_Or_int.f k (([t103, t104] : List Int))).bind fun t108 => (some t108)))
theorem impl_Entry_order.mono : ∀ a0 a1 a2 a3 a4 a5 k, LeO (impl_Entry_order.f k a0 a1 a2 a3 a4 a5) (impl_Entry_order.f (k + 1) a0 a1 a2 a3 a4 a5) := by
 intro a0 a1 a2 a3 a4 a5 k
 unfold impl_Entry_order.f
 repeat' first
   | (with_reducible exact cmp_Or_int.mono _ _)
   | (with_reducible exact LeO.refl _)
   | (with_reducible exact LeO.none _)
   | (with_reducible refine LeO.ite ?_ ?_)
   | (with_reducible refine LeO.bind ?_ (fun _ => ?_))
   | exact cmp_Or_int.mono _ _
   | exact LeO.none _
   | refine LeO.ite ?_ ?_
   | refine LeO.bind ?_ (fun _ => ?_)
def impl_Entry_order.T1 : Bool × List (List Nat × List Nat) := (true, [([], []), ([0], [0]), ([], []), ([2], [2]), ([1, 3], [1, 3]), ([], []), ([5], [5]), ([], []), ([7], [7]), ([6, 8, 4], [6, 8]), ([4, 9], [4, 9]), ([10, 9], [10]), ([11, 11, 0, 1, 2, 3, 4, 5, 6, 7, 8, 9, 10, 11], [11])])
def impl_Entry_order.B1 : List Nat := [0, 1, 0, 4, 15, 0, 32, 0, 128, 511, 1023, 2047, 4095]
theorem impl_Entry_order.tab1 : rtab .any (opsOf Try.f131 1) = impl_Entry_order.T1 := by kernel_rfl
theorem impl_Entry_order.bits1 : waitsOk impl_Entry_order.T1.2 impl_Entry_order.B1 = true := by kernel_rfl
set_option maxHeartbeats 8000000 in
set_option maxRecDepth 100000 in
theorem impl_Entry_order.calls (k : Nat) (a0_0 : Int) (a0_1 : Int) (a0_2 : Int) (a1_0 : Int) (a1_1 : Int) (a1_2 : Int) (r : Int) (w : World) (h : impl_Entry_order.f k a0_0 a0_1 a0_2 a1_0 a1_1 a1_2 = some r) :
  Calls Try.prog 131 #[.agg #[.int .i64 a0_0, .int .i64 a0_1, .int .i64 a0_2], .agg #[.int .i64 a1_0, .int .i64 a1_1, .int .i64 a1_2]] w fun e w' => e = .returned (.int .i64 r) ∧ Below w.heap.size w w' := by
 have hu126 := Try.underlying126
 have HB := am_ (Below.refl w.heap.size w)
 have H : ((cmp_Compare_int.f a0_0 a1_0).bind fun t103 => ((cmp_Compare_int.f a0_1 a1_1).bind fun t104 => ((cmp_Or_int.f k (([t103, t104] : List Int))).bind fun t108 => (some t108)))) = some r := h
 clear h
 replace H := Option.bind_eq_some_iff.mp H
 obtain ⟨t103, A30, H⟩ := H
 replace H : ((cmp_Compare_int.f a0_1 a1_1).bind fun t104 => ((cmp_Or_int.f k (([t103, t104] : List Int))).bind fun t108 => (some t108))) = some r := H
 have A3 := am_ A30
 clear A30
 replace H := Option.bind_eq_some_iff.mp H
 obtain ⟨t104, A40, H⟩ := H
 replace H : ((cmp_Or_int.f k (([t103, t104] : List Int))).bind fun t108 => (some t108)) = some r := H
 have A4 := am_ A40
 clear A40
 obtain ⟨y105, hy105⟩ : ∃ y_ : List Int, y_ = (([t103, t104] : List Int)) := ⟨_, rfl⟩
 replace H : ((cmp_Or_int.f k y105).bind fun t108 => (some t108)) = some r := by first | (rw [hy105]; with_reducible exact H) | (have H2_ := (Option.bind_some _ _).symm.trans H; rw [hy105]; with_reducible exact H2_) | (have H2_ := (Option.bind_some _ _).symm.trans H; with_reducible exact H2_) | with_reducible exact H | (rw [hy105]; exact H) | exact H
 have Ny105 := am_ hy105
 clear hy105
 replace H := Option.bind_eq_some_iff.mp H
 obtain ⟨t108, A50, H⟩ := H
 replace H : (some t108) = some r := H
 have A5 := am_ A50
 clear A50
 obtain rfl := Option.some.inj H
 go_enter Try.func131, Try.ntmps131
 try go_wp2_with (first | ((with_reducible refine gate_dst (N := 2) rfl ?_); refine box_event ?hg (N := 2) ?hd (cs := #[.int .i64 a0_0, .int .i64 a0_1, .int .i64 a0_2]) (t := 126) ?hr ?_; (case hd => rfl); (case hg => rfl); (case hr => first | (go_simp; done) | (go_simp; rfl)); intro gb101 hg w6 hbox hb; have n0_ := am_ (below_step qz2_ hb); have n1_ := am_ (hbox); have n2_ := am_ ((by rw [hg]; exact (below_size qz2_) : w.heap.size ≤ gb101)); have n3_ := am_ ((by rw [hg]; exact (below_size qz2_) : w.heap.size ≤ gb101)); clear HB; have HB := n0_; have BK101 := n1_; have GW101 := n2_; have GE101 := n3_; clear n0_ n1_ n2_ n3_; clear hb hbox hg) | ((with_reducible refine gate_dst (N := 3) rfl ?_); refine box_event ?hg (N := 3) ?hd (cs := #[.int .i64 a1_0, .int .i64 a1_1, .int .i64 a1_2]) (t := 126) ?hr ?_; (case hd => rfl); (case hg => rfl); (case hr => first | (go_simp; done) | (go_simp; rfl)); intro gb102 hg w7 hbox hb; have n0_ := am_ (blk_below (g := gb101) (o := .cells #[.int .i64 a0_0, .int .i64 a0_1, .int .i64 a0_2] 126 (0, 0)) qz9_ hb); have n1_ := am_ (below_step qz5_ hb); have n2_ := am_ (hbox); have n3_ := am_ ((by rw [hg]; exact (below_size qz5_) : w.heap.size ≤ gb102)); have n4_ := am_ ((by rw [hg]; exact (below_size qz5_) : w.heap.size ≤ gb102)); have n5_ := am_ ((by rw [hg]; exact Nat.ne_of_lt (blk_lt (g := gb101) (o := .cells #[.int .i64 a0_0, .int .i64 a0_1, .int .i64 a0_2] 126 (0, 0)) qz9_) : gb101 ≠ gb102)); have n6_ := am_ ((by rw [hg]; exact Nat.ne_of_gt (blk_lt (g := gb101) (o := .cells #[.int .i64 a0_0, .int .i64 a0_1, .int .i64 a0_2] 126 (0, 0)) qz9_) : gb102 ≠ gb101)); clear BK101; clear HB; have BK101 := n0_; have HB := n1_; have BK102 := n2_; have GW102 := n3_; have GE102 := n4_; have NB101_102 := n5_; have NB102_101 := n6_; clear n0_ n1_ n2_ n3_ n4_ n5_ n6_; clear hb hbox hg))
 have n0_ := am_ (blk_drew BK101.out)
 have n1_ := am_ (blk_drew BK102.out)
 have n2_ := am_ (below_drew1 HB.out)
 clear BK101
 clear BK102
 clear HB
 have BK101 := n0_
 have BK102 := n1_
 have HB := n2_
 clear n0_ n1_ n2_
 refine start_ (n := 13) (S := fun w' => w'.cell? ⟨gb101, 0, none⟩ = some (.int .i64 a0_0) ∧ w'.cell? ⟨gb101, 1, none⟩ = some (.int .i64 a0_1) ∧ w'.cell? ⟨gb101, 2, none⟩ = some (.int .i64 a0_2) ∧ w'.cell? ⟨gb102, 0, none⟩ = some (.int .i64 a1_0) ∧ w'.cell? ⟨gb102, 1, none⟩ = some (.int .i64 a1_1) ∧ w'.cell? ⟨gb102, 2, none⟩ = some (.int .i64 a1_2)) (ds := []) #[false, false, false, false, false, false, false, false, false, false, false, false, false] (by kernel_rfl) rfl rfl ⟨(blk_cell BK101.out 0).trans rfl, (blk_cell BK101.out 1).trans rfl, (blk_cell BK101.out 2).trans rfl, (blk_cell BK102.out 0).trans rfl, (blk_cell BK102.out 1).trans rfl, (blk_cell BK102.out 2).trans rfl⟩ (fun hHeld => ?_); refine with_tabW impl_Entry_order.tab1 impl_Entry_order.bits1 (fun HT_ HW_ => ?_)
 generalize w7.drew = w8 at BK101 BK102 HB hHeld ⊢
 refine pure_ (i := 0) (N := some 5) (v := ?_) (a' := ?_) #[true, false, false, false, false, false, false, false, false, false, false, false, false] rfl rfl (any_of HT_.out (by kernel_rfl)) (fun _ _ _ h => h) (Or.inl ⟨(by rfl), ?_⟩) ?_ ?_
 rotate_left
 ·
  intro w'
  go_simp
  with_reducible rfl
 rotate_left
 ·
  exact ap_
 refine pure_ (i := 2) (N := some 7) (v := ?_) (a' := ?_) #[true, false, true, false, false, false, false, false, false, false, false, false, false] rfl rfl (any_of HT_.out (by kernel_rfl)) (fun _ _ _ h => h) (Or.inl ⟨(by rfl), ?_⟩) ?_ ?_
 rotate_left
 ·
  intro w'
  go_simp
  with_reducible rfl
 rotate_left
 ·
  exact ap_
 refine pure_ (i := 5) (N := some 10) (v := ?_) (a' := ?_) #[true, false, true, false, false, true, false, false, false, false, false, false, false] rfl rfl (any_of HT_.out (by kernel_rfl)) (fun _ _ _ h => h) (Or.inl ⟨(by rfl), ?_⟩) ?_ ?_
 rotate_left
 ·
  intro w'
  go_simp
  with_reducible rfl
 rotate_left
 ·
  exact ap_
 refine pure_ (i := 7) (N := some 12) (v := ?_) (a' := ?_) #[true, false, true, false, false, true, false, true, false, false, false, false, false] rfl rfl (any_of HT_.out (by kernel_rfl)) (fun _ _ _ h => h) (Or.inl ⟨(by rfl), ?_⟩) ?_ ?_
 rotate_left
 ·
  intro w'
  go_simp
  with_reducible rfl
 rotate_left
 ·
  exact ap_
 refine take_ (i := 1) (N := some 6) (v := ?_) (a' := ?_) #[true, true, true, false, false, true, false, true, false, false, false, false, false] rfl rfl (take_ofW HT_.out HW_.out (by kernel_rfl)) (fun _ _ _ h => h) (Or.inl ⟨(by rfl), ?_⟩) hHeld ?_ ?_
 rotate_left
 ·
  rintro w' ⟨s0, s1, s2, s3, s4, s5⟩
  go_simp
  with_reducible rfl
 rotate_left
 ·
  exact ap_
 refine take_ (i := 3) (N := some 8) (v := ?_) (a' := ?_) #[true, true, true, true, false, true, false, true, false, false, false, false, false] rfl rfl (take_ofW HT_.out HW_.out (by kernel_rfl)) (fun _ _ _ h => h) (Or.inl ⟨(by rfl), ?_⟩) hHeld ?_ ?_
 rotate_left
 ·
  rintro w' ⟨s0, s1, s2, s3, s4, s5⟩
  go_simp
  with_reducible rfl
 rotate_left
 ·
  exact ap_
 refine take_ (i := 6) (N := some 11) (v := ?_) (a' := ?_) #[true, true, true, true, false, true, true, true, false, false, false, false, false] rfl rfl (take_ofW HT_.out HW_.out (by kernel_rfl)) (fun _ _ _ h => h) (Or.inl ⟨(by rfl), ?_⟩) hHeld ?_ ?_
 rotate_left
 ·
  rintro w' ⟨s0, s1, s2, s3, s4, s5⟩
  go_simp
  with_reducible rfl
 rotate_left
 ·
  exact ap_
 refine take_ (i := 8) (N := some 13) (v := ?_) (a' := ?_) #[true, true, true, true, false, true, true, true, true, false, false, false, false] rfl rfl (take_ofW HT_.out HW_.out (by kernel_rfl)) (fun _ _ _ h => h) (Or.inl ⟨(by rfl), ?_⟩) hHeld ?_ ?_
 rotate_left
 ·
  rintro w' ⟨s0, s1, s2, s3, s4, s5⟩
  go_simp
  with_reducible rfl
 rotate_left
 ·
  exact ap_
 refine one_ (i := 4) (N := some 9) #[true, true, true, true, true, true, true, true, true, false, false, false, false] rfl rfl (one_of HT_.out (by kernel_rfl)) (by decide) (fun K hK => ?_)
 refine goes_ Try.func164 (by kernel_rfl) rfl #[.int .i64 a0_0, .int .i64 a1_0] (by rfl) rfl rfl qz3_ ?_
 with_reducible refine (cmp_Compare_int.calls a0_0 a1_0 t103 _ A3.out).mono ?_
 rintro e w' ⟨rfl, ⟨nd, rfl⟩⟩
 refine ⟨_, rfl, ?_⟩
 refine hK.out _ _ ⟨(blk_cell BK101.out 0).trans rfl, (blk_cell BK101.out 1).trans rfl, (blk_cell BK101.out 2).trans rfl, (blk_cell BK102.out 0).trans rfl, (blk_cell BK102.out 1).trans rfl, (blk_cell BK102.out 2).trans rfl⟩ (fun hHeld => ?_)
 clear hK K
 refine norm_ (a' := ?_) ?_ ?_
 rotate_left
 ·
  show Act.put _ (some 9) _ = _
  exact ap_
 refine one_ (i := 9) (N := some 14) #[true, true, true, true, true, true, true, true, true, true, false, false, false] rfl rfl (one_of HT_.out (by kernel_rfl)) (by decide) (fun K hK => ?_)
 refine goes_ Try.func164 (by kernel_rfl) rfl #[.int .i64 a0_1, .int .i64 a1_1] (by rfl) rfl rfl qz3_ ?_
 with_reducible refine (cmp_Compare_int.calls a0_1 a1_1 t104 _ A4.out).mono ?_
 rintro e w' ⟨rfl, ⟨nd, rfl⟩⟩
 refine ⟨_, rfl, ?_⟩
 refine hK.out _ _ ⟨(blk_cell BK101.out 0).trans rfl, (blk_cell BK101.out 1).trans rfl, (blk_cell BK101.out 2).trans rfl, (blk_cell BK102.out 0).trans rfl, (blk_cell BK102.out 1).trans rfl, (blk_cell BK102.out 2).trans rfl⟩ (fun hHeld => ?_)
 clear hK K
 refine norm_ (a' := ?_) ?_ ?_
 rotate_left
 ·
  show Act.put _ (some 14) _ = _
  exact ap_
 refine one_ (i := 10) (N := some 15) #[true, true, true, true, true, true, true, true, true, true, true, false, false] rfl rfl (one_of HT_.out (by kernel_rfl)) (by decide) (fun K hK => ?_)
 refine Kd.R_lit_step (Kd.int .i64) _ 3 ?hg (N := 15) ?hd (xs := ([t103, t104] : List Int)) (inner := [.int .i64 t103, .int .i64 t104]) (ok := fun _ => True) (okp := fun _ => True) ?hr ?hp (fun _ hk => hk) trivial (Below.refl _ _) (Nat.le_refl _) (by simp) ?_; (case hd => rfl); (case hg => rfl); (case hr => first | (go_simp; done) | (go_simp; rfl)); (case hp => exact (Reps.one (show Kd.M (Kd.int .i64) _ _ _ t103 [.int .i64 t103] from rfl) (Reps.one (show Kd.M (Kd.int .i64) _ _ _ t104 [.int .i64 t104] from rfl) (Reps.none _ _))))
 intro v106 w9 ho10 hb hg_ hnew_
 clear hg_ hnew_
 (first | rw [← Ny105.out] at ho10 | (simp only [Int.reduceToNat] at ho10; rw [← Ny105.out] at ho10))
 have n0_ := am_ (Kd.R_lower ho10 (below_size qz27_))
 have n1_ := am_ (blk_below (g := gb101) (o := .cells #[.int .i64 a0_0, .int .i64 a0_1, .int .i64 a0_2] 126 (0, 0)) qz9_ hb)
 have n2_ := am_ (blk_below (g := gb102) (o := .cells #[.int .i64 a1_0, .int .i64 a1_1, .int .i64 a1_2] 126 (0, 0)) qz26_ hb)
 have n3_ := am_ (below_step qz27_ hb)
 clear BK101
 clear BK102
 clear HB
 have HO107 := n0_
 have BK101 := n1_
 have BK102 := n2_
 have HB := n3_
 clear n0_ n1_ n2_ n3_
 clear hb ho10
 obtain ⟨Ao11, co11, eo11⟩ := Kd.R_slice HO107.out
 (first | subst eo11 | (injection eo11 with f1_ f2_ f3_; have f4_ := f1_.symm; have f5_ := f3_.symm; clear f1_ f2_ f3_; subst f4_; subst f5_))
 refine hK.out _ _ ⟨(blk_cell BK101.out 0).trans rfl, (blk_cell BK101.out 1).trans rfl, (blk_cell BK101.out 2).trans rfl, (blk_cell BK102.out 0).trans rfl, (blk_cell BK102.out 1).trans rfl, (blk_cell BK102.out 2).trans rfl⟩ (fun hHeld => ?_)
 clear hK K
 refine norm_ (a' := ?_) ?_ ?_
 rotate_left
 ·
  show Act.put _ (some 15) _ = _
  exact ap_
 refine one_ (i := 11) (N := some 16) #[true, true, true, true, true, true, true, true, true, true, true, true, false] rfl rfl (one_of HT_.out (by kernel_rfl)) (by decide) (fun K hK => ?_)
 refine goes_ Try.func163 (by kernel_rfl) rfl #[.slice Ao11 y105.length co11] (by rfl) rfl rfl qz3_ ?_
 with_reducible refine (cmp_Or_int.calls k _ _ y105 t108 _ ?side1 ?side2 A5.out).mono ?_
 (case side1 => exact qc_ (Kd.R_reads' HO107.out).2.2)
 (case side2 => exact (Kd.R_reads' HO107.out).2.1)
 rintro e w' ⟨rfl, ⟨nd, rfl⟩⟩
 refine ⟨_, rfl, ?_⟩
 refine hK.out _ _ ⟨(blk_cell BK101.out 0).trans rfl, (blk_cell BK101.out 1).trans rfl, (blk_cell BK101.out 2).trans rfl, (blk_cell BK102.out 0).trans rfl, (blk_cell BK102.out 1).trans rfl, (blk_cell BK102.out 2).trans rfl⟩ (fun hHeld => ?_)
 clear hK K
 refine norm_ (a' := ?_) ?_ ?_
 rotate_left
 ·
  show Act.put _ (some 16) _ = _
  exact ap_
 refine pure_ (i := 12) (N := some 4) (v := ?_) (a' := ?_) #[true, true, true, true, true, true, true, true, true, true, true, true, true] rfl rfl (any_of HT_.out (by kernel_rfl)) (fun _ _ _ h => h) (Or.inl ⟨(by rfl), ?_⟩) ?_ ?_
 rotate_left
 ·
  intro w'
  go_simp
  with_reducible rfl
 rotate_left
 ·
  exact ap_
 refine done_ (done_of HT_.out (by kernel_rfl)) ?_
 try go_wp2
 go_ret
 exact ⟨qz4_, qz27_⟩

end Go.Proofs.Ytgookagndlfehaa.PT
end
