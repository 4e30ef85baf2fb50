/- Part 2 of the proof of FnExactCommitTable: what functions compute, shown step by step, and what that says (the claim's last text states the law). -/
import Derived.Test.YtgookagndlfehaaProg
import Derived.Test.YtgookagndlfehaaVMore
import Derived.Test.YtgookagndlfehaaVWords
import Derived.Test.YtgookagndlfehaaVLast
import Derived.Test.YtgookagndlfehaaVTab
import Derived.Test.YtgookagndlfehaaVFour
import Derived.Test.YtgookagndlfehaaVQPut
import Derived.Test.YtgookagndlfehaaVApart
import Derived.Test.YtgookagndlfehaaVArr
import Derived.Test.YtgookagndlfehaaVZeros
import Derived.Test.YtgookagndlfehaaVFoot
import Derived.Test.YtgookagndlfehaaVKept
import Derived.Test.YtgookagndlfehaaVShare
import Derived.Test.YtgookagndlfehaaVN
import Derived.Test.YtgookagndlfehaaVRepsOne
import Derived.Test.YtgookagndlfehaaVInv
import Derived.Test.YtgookagndlfehaaVNEv
import Derived.Test.YtgookagndlfehaaRows
import Derived.JoinedOf
import Derived.WalkKit
import Derived.ProofKit
import Derived.Below
import Derived.Deep.Draws
import Derived.Deep.AppendLies
import Derived.Maps.AppendAt
import Derived.OwnWalk
import Derived.Laws.BytesArg
import Derived.Laws.MakeOwn
import Derived.Laws.OwnMore
import Derived.Deep.OwnRows
import Derived.Tactics
import Derived.Lib.ConvBytes
import Derived.Laws.Slices
import Derived.KernelRfl
import Derived.RowKit3
import Derived.Deep.LoopGhost
import Derived.Deep.QuietTactic
import Derived.BigQuiet
import Derived.WideLaws
import Derived.Deep.DeepCutAuto
import Derived.Deep.CutBlock
import Derived.Deep.RegionHeld3
import Derived.Laws.Rows
import Derived.Lib.AppendStr
import Derived.ArgAppend
import Derived.Laws.IdiomCopy
import Derived.OrdersHeld
import Derived.Laws.BitsLemmas
import Derived.RowKit
import Derived.Deep.DeepMust
import Derived.Laws.CopyOwn
import Derived.Lib.BufferMore
import Derived.Lib.SliceRun
import Derived.Shelf.Small.Bits
import Derived.Shelf.Strconv.Itoa0
import Derived.OpenShut
import Derived.ShutString
import Derived.ChangeOld
import Derived.SizedLaws
import Derived.Deep.Slices
import Derived.ChangeArms
import Derived.Test.YtgookagndlfehaaZFnExactCommitTable1
section
namespace Go.Proofs.Ytgookagndlfehaa.PT
open Go.RowKit Go.Proofs.YtgookagndlfehaaW.PrintWords Go.Proofs.YtgookagndlfehaaW.PrintLast Go.Proofs.YtgookagndlfehaaW.PrintMore
attribute [local go_sem] max2_int min2_int max_two min_two max_three min_three max_four min_four   -- for this text's walks alone
set_option linter.unusedVariables false
set_option linter.unusedSimpArgs false
mutual
def spec_l07Ntt.l0 : Nat → List (S34) → Int → Int → List (S34) → List (S34) → Int → Option ((List (S34)))
 | 0, _, _, _, _, _, _ => none
 | k + 1, x0, x1, x5, x6, x7, x8 => if x8 < x5 then (if 0 ≤ x8 then (if x8 < (x0.length : Int) then (if x6.length < 8796093022208 then (if 0 ≤ (wrap64 (x8 + 1)) then (if (wrap64 (x8 + 1)) < (x0.length : Int) then (if x7.length < 8796093022208 then (spec_l07Ntt.l0 k x0 x1 x5 (x6 ++ [(⟨(rd_T34 x0 x8).f0, (rd_T34 x0 x8).f1⟩ : S34)]) (x7 ++ [(⟨(rd_T34 x0 (wrap64 (x8 + 1))).f0, (rd_T34 x0 (wrap64 (x8 + 1))).f1⟩ : S34)]) (wrap64 (x8 + 2))) else (none)) else (none)) else (none)) else (none)) else (none)) else (none)) else ((spec_l01Mul.f x1 x1).bind fun t121 => ((spec_l07Ntt.f k x6 t121).bind fun t122 => ((spec_l01Mul.f x1 x1).bind fun t125 => ((spec_l07Ntt.f k x7 t125).bind fun t126 => (if 0 ≤ x5 then (if (x5 : Int).toNat ≤ 17592186044416 then (spec_l07Ntt.l1 k x1 x5 t122 t126 (List.replicate (x5 : Int).toNat z34) 1 0) else (none)) else (none))))))
def spec_l07Ntt.l1 : Nat → Int → Int → List (S34) → List (S34) → List (S34) → Int → Int → Option ((List (S34)))
 | 0, _, _, _, _, _, _, _ => none
 | k + 1, x1, x5, x9, x10, x11, x12, x13 => if x13 < (wrap64 (x5 / 2)) then (if 0 ≤ x13 then (if x13 < (x10.length : Int) then ((spec_l02Of.f x12).bind fun bt133 => ((spec_l02Mul.f ((rd_T34 x10 x13).f0) ((rd_T34 x10 x13).f1) bt133.1 bt133.2).bind fun bt135 => (if x13 < (x9.length : Int) then ((spec_l02Add.f ((rd_T34 x9 x13).f0) ((rd_T34 x9 x13).f1) bt135.1 bt135.2).bind fun bt139 => (if x13 < (x11.length : Int) then ((spec_l02Sub.f ((rd_T34 x9 x13).f0) ((rd_T34 x9 x13).f1) bt135.1 bt135.2).bind fun bt143 => (if 0 ≤ (wrap64 (x13 + (wrap64 (x5 / 2)))) then (if (wrap64 (x13 + (wrap64 (x5 / 2)))) < (x11.length : Int) then ((spec_l01Mul.f x12 x1).bind fun t146 => (spec_l07Ntt.l1 k x1 x5 x9 x10 ((x11.set (x13 : Int).toNat (⟨bt139.1, bt139.2⟩ : S34)).set ((wrap64 (x13 + (wrap64 (x5 / 2)))) : Int).toNat (⟨bt143.1, bt143.2⟩ : S34)) t146 (wrap64 (x13 + 1)))) else (none)) else (none))) else (none))) else (none)))) else (none)) else (none)) else (some x11)
def spec_l07Ntt.f : Nat → List (S34) → Int → Option ((List (S34)))
 | 0, _, _ => none
 | k + 1, l0, a1 => if (l0.length : Int) = 1 then ((some (([] : List (S34)) : List (S34))).bind fun y101 => (if y101.length + l0.length < 8796093022208 then (some (y101 ++ l0)) else (none))) else (spec_l07Ntt.l0 k l0 a1 (l0.length : Int) (([] : List (S34))) (([] : List (S34))) 0)
end
theorem spec_l07Ntt.mono_l : ∀ k, (∀ y0 y1, LeO (spec_l07Ntt.f k y0 y1) (spec_l07Ntt.f (k + 1) y0 y1)) ∧ (∀ y0 y1 y2 y3 y4 y5, LeO (spec_l07Ntt.l0 k y0 y1 y2 y3 y4 y5) (spec_l07Ntt.l0 (k + 1) y0 y1 y2 y3 y4 y5)) ∧ (∀ y0 y1 y2 y3 y4 y5 y6, LeO (spec_l07Ntt.l1 k y0 y1 y2 y3 y4 y5 y6) (spec_l07Ntt.l1 (k + 1) y0 y1 y2 y3 y4 y5 y6))
 | 0 => ⟨fun _ _ r h => by simp [spec_l07Ntt.f] at h, fun _ _ _ _ _ _ r h => by simp [spec_l07Ntt.l0] at h, fun _ _ _ _ _ _ _ r h => by simp [spec_l07Ntt.l1] at h⟩
 | k + 1 => by
  obtain ⟨ih0, ih1, ih2⟩ := spec_l07Ntt.mono_l k
  refine ⟨?_, ?_, ?_⟩
  ·
   intro y0 y1
   unfold spec_l07Ntt.f
   repeat' first
   | (with_reducible exact ih0 _ _)
   | (with_reducible exact ih1 _ _ _ _ _ _)
   | (with_reducible exact ih2 _ _ _ _ _ _ _)
   | (with_reducible exact LeO.refl _)
   | (with_reducible exact LeO.none _)
   | (with_reducible refine LeO.ite ?_ ?_)
   | (with_reducible refine LeO.bind ?_ (fun _ => ?_))
   | exact ih0 _ _
   | exact ih1 _ _ _ _ _ _
   | exact ih2 _ _ _ _ _ _ _
   | exact LeO.none _
   | refine LeO.ite ?_ ?_
   | refine LeO.bind ?_ (fun _ => ?_)
  ·
   intro y0 y1 y2 y3 y4 y5
   unfold spec_l07Ntt.l0
   repeat' first
   | (with_reducible exact ih0 _ _)
   | (with_reducible exact ih1 _ _ _ _ _ _)
   | (with_reducible exact ih2 _ _ _ _ _ _ _)
   | (with_reducible exact LeO.refl _)
   | (with_reducible exact LeO.none _)
   | (with_reducible refine LeO.ite ?_ ?_)
   | (with_reducible refine LeO.bind ?_ (fun _ => ?_))
   | exact ih0 _ _
   | exact ih1 _ _ _ _ _ _
   | exact ih2 _ _ _ _ _ _ _
   | exact LeO.none _
   | refine LeO.ite ?_ ?_
   | refine LeO.bind ?_ (fun _ => ?_)
  ·
   intro y0 y1 y2 y3 y4 y5 y6
   unfold spec_l07Ntt.l1
   repeat' first
   | (with_reducible exact ih0 _ _)
   | (with_reducible exact ih1 _ _ _ _ _ _)
   | (with_reducible exact ih2 _ _ _ _ _ _ _)
   | (with_reducible exact LeO.refl _)
   | (with_reducible exact LeO.none _)
   | (with_reducible refine LeO.ite ?_ ?_)
   | (with_reducible refine LeO.bind ?_ (fun _ => ?_))
   | exact ih0 _ _
   | exact ih1 _ _ _ _ _ _
   | exact ih2 _ _ _ _ _ _ _
   | exact LeO.none _
   | refine LeO.ite ?_ ?_
   | refine LeO.bind ?_ (fun _ => ?_)
theorem spec_l07Ntt.mono : ∀ a0 a1 k, LeO (spec_l07Ntt.f k a0 a1) (spec_l07Ntt.f (k + 1) a0 a1) := by
 intro a0 a1 k
 obtain ⟨ih0, ih1, ih2⟩ := spec_l07Ntt.mono_l k
 exact ih0 a0 a1
def spec_l07Ntt.T18 : Bool × List (List Nat × List Nat) := (true, [([], []), ([], []), ([0, 1], [0, 1]), ([2], [2]), ([], []), ([4], [4]), ([3, 5, 5], [3, 5]), ([], []), ([7, 6, 6, 0, 1, 2, 3, 4, 5, 6, 7], [6, 7])])
def spec_l07Ntt.B18 : List Nat := [0, 0, 3, 7, 0, 16, 63, 0, 255]
theorem spec_l07Ntt.tab18 : rtab .any (opsOf Try.f135 18) = spec_l07Ntt.T18 := by kernel_rfl
theorem spec_l07Ntt.bits18 : waitsOk spec_l07Ntt.T18.2 spec_l07Ntt.B18 = true := by kernel_rfl
def spec_l07Ntt.T19 : Bool × List (List Nat × List Nat) := (true, [([], []), ([], []), ([], []), ([], []), ([2, 3], [2, 3]), ([4], [4]), ([], []), ([5, 6], [5, 6]), ([0, 1, 0, 1, 2, 3, 4, 5, 6, 7], [0, 1]), ([8, 7, 7, 0, 1, 2, 3, 4, 5, 6, 7], [7, 8])])
def spec_l07Ntt.B19 : List Nat := [0, 0, 0, 0, 12, 28, 0, 124, 255, 511]
theorem spec_l07Ntt.tab19 : rtab .any (opsOf Try.f135 19) = spec_l07Ntt.T19 := by kernel_rfl
theorem spec_l07Ntt.bits19 : waitsOk spec_l07Ntt.T19.2 spec_l07Ntt.B19 = true := by kernel_rfl
def spec_l07Ntt.T20 : Bool × List (List Nat × List Nat) := (true, [([], []), ([], []), ([], []), ([2], [2]), ([1, 3], [1, 3]), ([], []), ([], []), ([5, 6], [5, 6]), ([7], [7]), ([], []), ([8, 9], [8, 9]), ([0, 4, 0, 1, 2, 3, 4, 5, 6, 7, 8, 9, 10], [0, 4]), ([11, 10, 10, 0, 1, 2, 3, 4, 5, 6, 7, 8, 9, 10], [10, 11])])
def spec_l07Ntt.B20 : List Nat := [0, 0, 0, 4, 14, 0, 0, 96, 224, 0, 992, 2047, 4095]
theorem spec_l07Ntt.tab20 : rtab .any (opsOf Try.f135 20) = spec_l07Ntt.T20 := by kernel_rfl
theorem spec_l07Ntt.bits20 : waitsOk spec_l07Ntt.T20.2 spec_l07Ntt.B20 = true := by kernel_rfl
set_option maxHeartbeats 8000000 in
set_option maxRecDepth 100000 in
theorem spec_l07Ntt.calls (k : Nat) : ∀ (A0 : Option Addr) (c0 : Nat) (l0 : List (S34)) (a1 : Int) (r : List (S34)) (w : World) (hr0 : Kd.C k34 w A0 l0.length l0) (hc0 : l0.length ≤ c0) (h : spec_l07Ntt.f k l0 a1 = some r),
  Calls Try.prog 135 #[.slice A0 l0.length c0, .int .i64 a1] w fun e w' => ∃ v0_ : Value, e = .returned (v0_) ∧ Kd.R k34 34 w' w.heap.size (fun _ => True) v0_ r ∧ Below w.heap.size w w' := by
 induction k using Nat.strongRecOn with
 | _ k ih =>
 intro A0 c0 l0 a1 r w hr0 hc0 h
 cases k with
 | zero => exact absurd h (by simp [spec_l07Ntt.f])
 | succ k =>
 simp only [spec_l07Ntt.f] at h
 have hu34 := Try.underlying34
 have HR0 := am_ hr0
 have HC0 := am_ hc0
 clear hr0 hc0
 have HB := am_ (Below.refl w.heap.size w)
 have H : (if (l0.length : Int) = 1 then ((some (([] : List (S34)) : List (S34))).bind fun y101 => (if y101.length + l0.length < 8796093022208 then (some (y101 ++ l0)) else (none))) else (spec_l07Ntt.l0 k l0 a1 (l0.length : Int) (([] : List (S34))) (([] : List (S34))) 0)) = some r := h
 clear h
 by_cases c3 : (l0.length : Int) = 1
 ·
  rw [if_pos c3] at H
  have c3b0 : ((l0.length : Int) == 1) = true := beq_iff_eq.mpr c3
  have c3b1 : ((l0.length : Int) != 1) = false := bne_eq_false_iff_eq.mpr c3
  clear c3
  obtain ⟨y101, hy101⟩ : ∃ y_ : List (S34), y_ = (([] : List (S34))) := ⟨_, rfl⟩
  replace H : (if y101.length + l0.length < 8796093022208 then (some (y101 ++ l0)) else (none)) = some r := by first | (rw [hy101]; with_reducible exact H) | (have H2_ := (Option.bind_some _ _).symm.trans H; rw [hy101]; with_reducible exact H2_) | (have H2_ := (Option.bind_some _ _).symm.trans H; with_reducible exact H2_) | with_reducible exact H | (rw [hy101]; exact H) | exact H
  have Ny101 := am_ hy101
  clear hy101
  by_cases c4 : y101.length + l0.length < 8796093022208
  ·
   rw [if_pos c4] at H
   have LMc4 := am_ c4
   clear c4
   obtain ⟨y104, hy104⟩ : ∃ y_ : List (S34), y_ = (y101 ++ l0) := ⟨_, rfl⟩
   replace H : (some y104) = some r := by first | (rw [hy104]; with_reducible exact H) | (have H2_ := (Option.bind_some _ _).symm.trans H; rw [hy104]; with_reducible exact H2_) | (have H2_ := (Option.bind_some _ _).symm.trans H; with_reducible exact H2_) | with_reducible exact H | (rw [hy104]; exact H) | exact H
   have Ny104 := am_ hy104
   clear hy104
   obtain rfl := Option.some.inj H
   go_enter Try.func135, Try.ntmps135
   go_wp2_with (first | ((with_reducible refine gate_dst (N := 19) rfl ?_); refine Kd.R_lit k34 _ 34 ?hg (N := 19) ?hd (xs := ([] : List (S34))) (inner := []) (ok := fun _ => True) (okp := fun _ => True) ?hr ?hp (fun _ hk => hk) trivial (Below.refl _ _) (Nat.le_refl _) (by simp) ?_; (case hd => rfl); (case hg => rfl); (case hr => first | (go_simp; done) | (go_simp; rfl)); (case hp => exact (Reps.none _ _)); intro v102 w5 ho6 hb hg_ hnew_; clear hg_ hnew_; (first | rw [← Ny101.out] at ho6 | (simp only [Int.reduceToNat] at ho6; rw [← Ny101.out] at ho6)); have n0_ := am_ (Kd.R_lower ho6 (below_size qz3_)); have n1_ := am_ (below_step qz3_ hb); clear HB; have HO103 := n0_; have HB := n1_; clear n0_ n1_; clear hb ho6) | ((with_reducible refine gate_builtin (b := .append) (xs := #[.tmp 19, .tmp 20]) rfl ?_); at_builtin; refine Kd.R_append_rows k34 (w0 := w) w.heap.size rfl (.tmp 19) (.tmp 20) 24 34 (.agg #[(.int .i64 0), (.int .i64 0)]) 16 rfl Try.underlying24 info34 rfl (by decide) (by omega) v102 y101 l0 _ _ _ (fun _ => True) (fun _ => False) rfl rfl ?aO ?aR (fun _ _ h => h) (fun _ h => h.elim) ?aF ?aB ?aS ?aL ?_; (case aR => exact qc_ (Kd.C_below HR0.out HB.out)); (case aB => exact qz3_); (case aF => exact (fun _ _ => trivial)); (case aO => exact qz10_); (case aS => exact (below_size qz3_)); (case aL => have := LMc4.out; omega); intro v105 w7 ho hb hg hat; rw [← Ny104.out] at ho; have n0_ := am_ (hb); have n1_ := am_ (ho); clear HB; clear HO103; have HB := n0_; have HO106 := n1_; clear n0_ n1_; clear ho hb hg hat))
   go_ret
   exact ⟨_, qz4_, qz12_, qz3_⟩
  ·
   rw [if_neg c4] at H
   exact absurd H (by simp)
 ·
  rw [if_neg c3] at H
  have c3b0 : ((l0.length : Int) == 1) = false := beq_eq_false_iff_ne.mpr c3
  have c3b1 : ((l0.length : Int) != 1) = true := bne_iff_ne.mpr c3
  obtain ⟨y107, hy107⟩ : ∃ y_ : List (S34), y_ = (([] : List (S34))) := ⟨_, rfl⟩
  replace H : (spec_l07Ntt.l0 k l0 a1 (l0.length : Int) y107 (([] : List (S34))) 0) = some r := by first | (rw [hy107]; with_reducible exact H) | (have H2_ := (Option.bind_some _ _).symm.trans H; rw [hy107]; with_reducible exact H2_) | (have H2_ := (Option.bind_some _ _).symm.trans H; with_reducible exact H2_) | with_reducible exact H | (rw [hy107]; exact H) | exact H
  have Ny107 := am_ hy107
  clear hy107
  obtain ⟨y110, hy110⟩ : ∃ y_ : List (S34), y_ = (([] : List (S34))) := ⟨_, rfl⟩
  replace H : (spec_l07Ntt.l0 k l0 a1 (l0.length : Int) y107 y110 0) = some r := by first | (rw [hy110]; with_reducible exact H) | (have H2_ := (Option.bind_some _ _).symm.trans H; rw [hy110]; with_reducible exact H2_) | (have H2_ := (Option.bind_some _ _).symm.trans H; with_reducible exact H2_) | with_reducible exact H | (rw [hy110]; exact H) | exact H
  have Ny110 := am_ hy110
  clear hy110
  have H' := am_ H
  clear H
  go_enter Try.func135, Try.ntmps135
  go_wp2_with (first | ((with_reducible refine gate_dst (N := 22) rfl ?_); refine Kd.R_lit k34 _ 34 ?hg (N := 22) ?hd (xs := ([] : List (S34))) (inner := []) (ok := fun _ => True) (okp := fun _ => True) ?hr ?hp (fun _ hk => hk) trivial (Below.refl _ _) (Nat.le_refl _) (by simp) ?_; (case hd => rfl); (case hg => rfl); (case hr => first | (go_simp; done) | (go_simp; rfl)); (case hp => exact (Reps.none _ _)); intro v108 w8 ho9 hb hg_ hnew_; clear hg_ hnew_; (first | rw [← Ny107.out] at ho9 | (simp only [Int.reduceToNat] at ho9; rw [← Ny107.out] at ho9)); have n0_ := am_ (Kd.R_lower ho9 (below_size qz3_)); have n1_ := am_ (below_step qz3_ hb); clear HB; have HO109 := n0_; have HB := n1_; clear n0_ n1_; clear hb ho9) | ((with_reducible refine gate_dst (N := 23) rfl ?_); refine Kd.R_lit k34 _ 34 ?hg (N := 23) ?hd (xs := ([] : List (S34))) (inner := []) (ok := fun _ => True) (okp := fun _ => True) ?hr ?hp (fun _ hk => hk) trivial (Below.refl _ _) (Nat.le_refl _) (by simp) ?_; (case hd => rfl); (case hg => rfl); (case hr => first | (go_simp; done) | (go_simp; rfl)); (case hp => exact (Reps.none _ _)); intro v111 w10 ho11 hb hg_ hnew_; clear hg_ hnew_; (first | rw [← Ny110.out] at ho11 | (simp only [Int.reduceToNat] at ho11; rw [← Ny110.out] at ho11)); have n0_ := am_ (Kd.R_elder' qz18_ (Kd.R_base ho11) hb); have n1_ := am_ (Kd.R_lower (Kd.R_new' ho11 (Kd.R_lt qz18_)) (below_size qz3_)); have n2_ := am_ (below_step qz3_ hb); clear HO109; clear HB; have HO109 := n0_; have HO112 := n1_; have HB := n2_; clear n0_ n1_ n2_; clear hb ho11))
  go_loopg [6, 7, 8] k (fun kq v6 v7 v8 w' => ∃ (x6_1 : List (S34)) (x7_1 : List (S34)) (x8_1 : Int), v8 = .int .i64 x8_1 ∧ Aside0 (spec_l07Ntt.l0 kq l0 a1 (l0.length : Int) x6_1 x7_1 x8_1 = some r) ∧ Aside0 (kq ≤ k) ∧ Aside0 (Kd.R k34 34 w' w.heap.size (fun k_ => some k_ ≠ (v7 : Value).ownBlock) v6 x6_1) ∧ Aside0 (Kd.R k34 34 w' w.heap.size (fun k_ => some k_ ≠ (v6 : Value).ownBlock) v7 x7_1) ∧ Aside0 (Below w.heap.size w w'))
  case atStart => exact ⟨(y107), (y110), (0), qz0_, H', ⟨Nat.le_refl _⟩, ⟨(by (with_reducible repeat (first | apply Kd.R_alloc | apply Kd.R_drewN | apply Kd.R_drew)); exact Kd.R_mono HO109.out (fun _ hk => hk.2))⟩, ⟨(by (with_reducible repeat (first | apply Kd.R_alloc | apply Kd.R_drewN | apply Kd.R_drew)); exact Kd.R_mono HO112.out (fun _ hk => hk.2))⟩, ⟨qz3_⟩⟩
  case round =>
   clear H'
   try clear c1
   try clear p2
   try clear c3
   try clear c3b0
   try clear c3b1
   try clear c4
   obtain ⟨x6_1, x7_1, x8_1, rfl, HA, HK1, HO_6, HO_7, HB⟩ := hrel
   cases gk with
   | zero => exact absurd HA.out (by simp [spec_l07Ntt.l0])
   | succ k1 =>
    have H := HA.out
    clear HA
    simp only [spec_l07Ntt.l0] at H
    by_cases c12 : x8_1 < (l0.length : Int)
    ·
     rw [if_pos c12] at H
     have c12b0 : decide (x8_1 < (l0.length : Int)) = true := decide_eq_true c12
     clear c12
     by_cases c13 : 0 ≤ x8_1
     ·
      rw [if_pos c13] at H
      have c13b0 : decide (0 ≤ x8_1) = true := decide_eq_true c13
      clear c13
      by_cases c14 : x8_1 < (l0.length : Int)
      ·
       rw [if_pos c14] at H
       have c14b0 : decide (x8_1 < (l0.length : Int)) = true := decide_eq_true c14
       clear c14
       by_cases c15 : x6_1.length < 8796093022208
       ·
        rw [if_pos c15] at H
        have LMc15 := am_ c15
        clear c15
        obtain ⟨y114, hy114⟩ : ∃ y_ : List (S34), y_ = (x6_1 ++ [(⟨(rd_T34 l0 x8_1).f0, (rd_T34 l0 x8_1).f1⟩ : S34)]) := ⟨_, rfl⟩
        replace H : (if 0 ≤ (wrap64 (x8_1 + 1)) then (if (wrap64 (x8_1 + 1)) < (l0.length : Int) then (if x7_1.length < 8796093022208 then (spec_l07Ntt.l0 k1 l0 a1 (l0.length : Int) y114 (x7_1 ++ [(⟨(rd_T34 l0 (wrap64 (x8_1 + 1))).f0, (rd_T34 l0 (wrap64 (x8_1 + 1))).f1⟩ : S34)]) (wrap64 (x8_1 + 2))) else (none)) else (none)) else (none)) = some r := by first | (rw [hy114]; with_reducible exact H) | (have H2_ := (Option.bind_some _ _).symm.trans H; rw [hy114]; with_reducible exact H2_) | (have H2_ := (Option.bind_some _ _).symm.trans H; with_reducible exact H2_) | with_reducible exact H | (rw [hy114]; exact H) | exact H
        have Ny114 := am_ hy114
        clear hy114
        obtain ⟨ji16, hji16⟩ : ∃ j_ : Int, (wrap64 (x8_1 + 1)) = j_ := ⟨_, rfl⟩
        replace H : (if 0 ≤ (ji16) then (if (ji16) < (l0.length : Int) then (if x7_1.length < 8796093022208 then (spec_l07Ntt.l0 k1 l0 a1 (l0.length : Int) y114 (x7_1 ++ [(⟨(rd_T34 l0 (ji16)).f0, (rd_T34 l0 (ji16)).f1⟩ : S34)]) (wrap64 (x8_1 + 2))) else (none)) else (none)) else (none)) = some r := by first | (rw [hji16] at H; exact H) | (simp only [hji16] at H ⊢; exact H)
        have hji16w : (IntKind.i64.wrap (x8_1 + 1)) = ji16 := (i64_w _).trans hji16
        by_cases c17 : 0 ≤ (ji16)
        ·
         rw [if_pos c17] at H
         have c17b0 : decide (0 ≤ (ji16)) = true := decide_eq_true c17
         clear c17
         by_cases c18 : (ji16) < (l0.length : Int)
         ·
          rw [if_pos c18] at H
          have c18b0 : decide ((ji16) < (l0.length : Int)) = true := decide_eq_true c18
          clear c18
          by_cases c19 : x7_1.length < 8796093022208
          ·
           rw [if_pos c19] at H
           have LMc19 := am_ c19
           clear c19
           obtain ⟨y118, hy118⟩ : ∃ y_ : List (S34), y_ = (x7_1 ++ [(⟨(rd_T34 l0 (ji16)).f0, (rd_T34 l0 (ji16)).f1⟩ : S34)]) := ⟨_, rfl⟩
           replace H : (spec_l07Ntt.l0 k1 l0 a1 (l0.length : Int) y114 y118 (wrap64 (x8_1 + 2))) = some r := by first | (rw [hy118]; with_reducible exact H) | (have H2_ := (Option.bind_some _ _).symm.trans H; rw [hy118]; with_reducible exact H2_) | (have H2_ := (Option.bind_some _ _).symm.trans H; with_reducible exact H2_) | with_reducible exact H | (rw [hy118]; exact H) | exact H
           have Ny118 := am_ hy118
           clear hy118
           have H' := am_ H
           clear H
           have p113 : 0 ≤ (x8_1 : Int) := of_decide_eq_true qz6_
           have q113 : x8_1 < (l0.length : Int) := of_decide_eq_true qz6_
           obtain ⟨ad113, e113, hx113_0, hx113_1⟩ := at_T34 HR0.out x8_1 p113 q113
           cases e113
           replace hx113_0 := (HB.out.cell (World.block_lt_of_cell? w _ hx113_0)).trans hx113_0
           replace hx113_1 := (HB.out.cell (World.block_lt_of_cell? w _ hx113_1)).trans hx113_1
           replace p113 := eq_true p113
           replace q113 := eq_true q113
           go_wp2_with (first | ((with_reducible refine gate_builtin (b := .append) (xs := #[.tmp 29, .tmp 34]) rfl ?_); at_builtin; refine Kd.R_append k34 (w0 := w) w.heap.size rfl (.tmp 29) (.tmp 34) 24 34 (.agg #[(.int .i64 0), (.int .i64 0)]) 16 rfl Try.underlying24 info34 rfl (by decide) (by omega) u6 x6_1 (⟨(rd_T34 l0 x8_1).f0, (rd_T34 l0 x8_1).f1⟩ : S34) [.int .i64 ((rd_T34 l0 x8_1).f0), .int .i64 ((rd_T34 l0 x8_1).f1)] (fun k_ => some k_ ≠ (u7 : Value).ownBlock) (fun _ => False) rfl rfl ?aP (fun _ hk => hk.elim) ?aF ?aO ?aB ?aS ?aL ?_; (case aP => exact k34_mkM _ _ _ (⟨(rd_T34 l0 x8_1).f0, (rd_T34 l0 x8_1).f1⟩ : S34)); (case aB => exact qz3_); (case aF => exact (fun k_ hk => Kd.fresh' (Kd.R_lt qz19_) k_ hk)); (case aO => exact qz20_); (case aS => exact (below_size qz3_)); (case aL => have := LMc15.out; omega); intro v115 w20 ho hb hg hat; rw [← Ny114.out] at ho; have n0_ := am_ (Kd.R_after (ok := (fun _ => True)) (by (with_reducible repeat (first | apply Kd.R_alloc | apply Kd.R_drewN | apply Kd.R_drew)); exact Kd.R_mono HO_7.out (fun _ hk => ⟨trivial, hk⟩)) hg hat); have n1_ := am_ (hb); have n2_ := am_ (ho); clear HO_7; clear HB; clear HO_6; have HO_7 := n0_; have HB := n1_; have HO116 := n2_; clear n0_ n1_ n2_; clear ho hb hg hat; have p117 : 0 ≤ ((ji16) : Int) := of_decide_eq_true qz6_; have q117 : (ji16) < (l0.length : Int) := of_decide_eq_true qz6_; obtain ⟨ad117, e117, hx117_0, hx117_1⟩ := at_T34 HR0.out (ji16) p117 q117; obtain rfl : ad113 = ad117 := (by injection e117); replace hx117_0 := (HB.out.cell (World.block_lt_of_cell? w _ hx117_0)).trans hx117_0; replace hx117_1 := (HB.out.cell (World.block_lt_of_cell? w _ hx117_1)).trans hx117_1; replace p117 := eq_true p117; replace q117 := eq_true q117) | ((with_reducible refine gate_builtin (b := .append) (xs := #[.tmp 36, .tmp 42]) rfl ?_); at_builtin; refine Kd.R_append k34 (w0 := w) w.heap.size rfl (.tmp 36) (.tmp 42) 24 34 (.agg #[(.int .i64 0), (.int .i64 0)]) 16 rfl Try.underlying24 info34 rfl (by decide) (by omega) u7 x7_1 (⟨(rd_T34 l0 (ji16)).f0, (rd_T34 l0 (ji16)).f1⟩ : S34) [.int .i64 ((rd_T34 l0 (ji16)).f0), .int .i64 ((rd_T34 l0 (ji16)).f1)] (fun k_ => some k_ ≠ (v115 : Value).ownBlock) (fun _ => False) rfl rfl ?aP (fun _ hk => hk.elim) ?aF ?aO ?aB ?aS ?aL ?_; (case aP => exact k34_mkM _ _ _ (⟨(rd_T34 l0 (ji16)).f0, (rd_T34 l0 (ji16)).f1⟩ : S34)); (case aB => exact qz3_); (case aF => exact (fun k_ hk => Kd.fresh' (Kd.R_lt (by (with_reducible repeat (first | apply Kd.R_alloc | apply Kd.R_drewN | apply Kd.R_drew)); exact HO116.out)) k_ hk)); (case aO => exact (by (with_reducible repeat (first | apply Kd.R_alloc | apply Kd.R_drewN | apply Kd.R_drew)); exact Kd.R_mono HO_7.out (fun _ hk => hk.2))); (case aS => exact (below_size qz3_)); (case aL => have := LMc19.out; omega); intro v119 w21 ho hb hg hat; rw [← Ny118.out] at ho; have n0_ := am_ (Kd.R_after (ok := (fun _ => True)) (by (with_reducible repeat (first | apply Kd.R_alloc | apply Kd.R_drewN | apply Kd.R_drew)); exact Kd.R_mono HO116.out (fun _ hk => ⟨trivial, hk⟩)) hg hat); have n1_ := am_ (hb); have n2_ := am_ (ho); clear HO116; clear HB; clear HO_7; have HO116 := n0_; have HB := n1_; have HO120 := n2_; clear n0_ n1_ n2_; clear ho hb hg hat))
           go_roundg k1
           case measure => have := HK1.out; omega
           case rel => exact ⟨(y114), (y118), (wrap64 (x8_1 + 2)), qz0_, H', ⟨(by have := HK1.out; omega)⟩, ⟨(by (with_reducible repeat (first | apply Kd.R_alloc | apply Kd.R_drewN | apply Kd.R_drew)); exact Kd.R_mono HO116.out (fun _ hk => hk.2))⟩, ⟨qz21_⟩, ⟨qz3_⟩⟩
          ·
           rw [if_neg c19] at H
           exact absurd H (by simp)
         ·
          rw [if_neg c18] at H
          exact absurd H (by simp)
        ·
         rw [if_neg c17] at H
         exact absurd H (by simp)
       ·
        rw [if_neg c15] at H
        exact absurd H (by simp)
      ·
       rw [if_neg c14] at H
       exact absurd H (by simp)
     ·
      rw [if_neg c13] at H
      exact absurd H (by simp)
    ·
     rw [if_neg c12] at H
     have c12b0 : decide (x8_1 < (l0.length : Int)) = false := decide_eq_false c12
     clear c12
     replace H := Option.bind_eq_some_iff.mp H
     obtain ⟨t121, A220, H⟩ := H
     replace H : ((spec_l07Ntt.f k1 x6_1 t121).bind fun t122 => ((spec_l01Mul.f a1 a1).bind fun t125 => ((spec_l07Ntt.f k1 x7_1 t125).bind fun t126 => (if 0 ≤ (l0.length : Int) then (if ((l0.length : Int) : Int).toNat ≤ 17592186044416 then (spec_l07Ntt.l1 k1 a1 (l0.length : Int) t122 t126 (List.replicate ((l0.length : Int) : Int).toNat z34) 1 0) else (none)) else (none))))) = some r := H
     have A22 := am_ A220
     clear A220
     replace H := Option.bind_eq_some_iff.mp H
     obtain ⟨t122, A230, H⟩ := H
     replace H : ((spec_l01Mul.f a1 a1).bind fun t125 => ((spec_l07Ntt.f k1 x7_1 t125).bind fun t126 => (if 0 ≤ (l0.length : Int) then (if ((l0.length : Int) : Int).toNat ≤ 17592186044416 then (spec_l07Ntt.l1 k1 a1 (l0.length : Int) t122 t126 (List.replicate ((l0.length : Int) : Int).toNat z34) 1 0) else (none)) else (none)))) = some r := H
     have A23 := am_ A230
     clear A230
     replace H := Option.bind_eq_some_iff.mp H
     obtain ⟨t125, A240, H⟩ := H
     replace H : ((spec_l07Ntt.f k1 x7_1 t125).bind fun t126 => (if 0 ≤ (l0.length : Int) then (if ((l0.length : Int) : Int).toNat ≤ 17592186044416 then (spec_l07Ntt.l1 k1 a1 (l0.length : Int) t122 t126 (List.replicate ((l0.length : Int) : Int).toNat z34) 1 0) else (none)) else (none))) = some r := H
     have A24 := am_ A240
     clear A240
     replace H := Option.bind_eq_some_iff.mp H
     obtain ⟨t126, A250, H⟩ := H
     replace H : (if 0 ≤ (l0.length : Int) then (if ((l0.length : Int) : Int).toNat ≤ 17592186044416 then (spec_l07Ntt.l1 k1 a1 (l0.length : Int) t122 t126 (List.replicate ((l0.length : Int) : Int).toNat z34) 1 0) else (none)) else (none)) = some r := H
     have A25 := am_ A250
     clear A250
     by_cases c26 : 0 ≤ (l0.length : Int)
     ·
      rw [if_pos c26] at H
      have c26b0 := eq_true c26
      have c26b1 : decide (0 ≤ (l0.length : Int)) = true := decide_eq_true c26
      clear c26
      by_cases c27 : ((l0.length : Int) : Int).toNat ≤ 17592186044416
      ·
       rw [if_pos c27] at H
       have c27b0 := eq_true c27
       have c27b1 : decide (((l0.length : Int) : Int).toNat ≤ 17592186044416) = true := decide_eq_true c27
       clear c27
       obtain ⟨y129, hy129⟩ : ∃ y_ : List (S34), y_ = (List.replicate ((l0.length : Int) : Int).toNat z34) := ⟨_, rfl⟩
       replace H : (spec_l07Ntt.l1 k1 a1 (l0.length : Int) t122 t126 y129 1 0) = some r := by first | (rw [hy129]; with_reducible exact H) | (have H2_ := (Option.bind_some _ _).symm.trans H; rw [hy129]; with_reducible exact H2_) | (have H2_ := (Option.bind_some _ _).symm.trans H; with_reducible exact H2_) | with_reducible exact H | (rw [hy129]; exact H) | exact H
       have Ny129 := am_ hy129
       clear hy129
       have H' := am_ H
       clear H
       go_wp2_with (first | ((with_reducible refine gate_callee (f := 151) rfl ?_); refine goesL_ (some 47) rfl rfl Try.func151 (by kernel_rfl) rfl #[.int .i64 a1, .int .i64 a1] rfl qz2_ ?_; (with_reducible refine (spec_l01Mul.calls a1 a1 t121 _ A22.out).mono ?_); rintro e w' ⟨rfl, ⟨nd, rfl⟩⟩; refine ⟨_, rfl, ?_⟩; obtain ⟨Ao28, co28, eo28⟩ := Kd.R_slice HO_6.out; subst eo28) | ((with_reducible refine gate_callee (f := 135) rfl ?_); refine goesL_ (some 48) rfl rfl Try.func135 (by kernel_rfl) rfl #[.slice Ao28 x6_1.length co28, .int .i64 t121] rfl qz2_ ?_; (with_reducible refine (ih k1 (by have := HK1.out; omega) _ _ x6_1 t121 t122 _ ?side1 ?side2 A23.out).mono ?_); (case side1 => exact qc_ (Kd.R_reads' HO_6.out).2.2); (case side2 => exact (Kd.R_reads' HO_6.out).2.1); rintro e w29 ⟨v123, rfl, ho0, hb⟩; refine ⟨_, rfl, ?_⟩; have n0_ := am_ (Kd.R_elder' qz20_ (Kd.R_base ho0) hb); have n1_ := am_ (Kd.R_elder' qz19_ (Kd.R_base ho0) hb); have n2_ := am_ (Kd.R_lower (Kd.R_new' (Kd.R_new' ho0 (Kd.R_lt qz20_)) (Kd.R_lt qz19_)) (below_size qz3_)); have n3_ := am_ (below_step qz3_ hb); clear HO_6; clear HO_7; clear HB; have HO_6 := n0_; have HO_7 := n1_; have HO124 := n2_; have HB := n3_; clear n0_ n1_ n2_ n3_; (try clear hb); (try clear hb2); (try clear hk); (try clear hi); (try clear ho0)) | ((with_reducible refine gate_callee (f := 151) rfl ?_); refine goesL_ (some 52) rfl rfl Try.func151 (by kernel_rfl) rfl #[.int .i64 a1, .int .i64 a1] rfl qz2_ ?_; (with_reducible refine (spec_l01Mul.calls a1 a1 t125 _ A24.out).mono ?_); rintro e w' ⟨rfl, ⟨nd, rfl⟩⟩; refine ⟨_, rfl, ?_⟩; obtain ⟨Ao30, co30, eo30⟩ := Kd.R_slice HO_7.out; subst eo30) | ((with_reducible refine gate_callee (f := 135) rfl ?_); refine goesL_ (some 53) rfl rfl Try.func135 (by kernel_rfl) rfl #[.slice Ao30 x7_1.length co30, .int .i64 t125] rfl qz2_ ?_; (with_reducible refine (ih k1 (by have := HK1.out; omega) _ _ x7_1 t125 t126 _ ?side1 ?side2 A25.out).mono ?_); (case side1 => exact qc_ (Kd.R_reads' HO_7.out).2.2); (case side2 => exact (Kd.R_reads' HO_7.out).2.1); rintro e w31 ⟨v127, rfl, ho0, hb⟩; refine ⟨_, rfl, ?_⟩; have n0_ := am_ (Kd.R_elder' qz20_ (Kd.R_base ho0) hb); have n1_ := am_ (Kd.R_elder' qz19_ (Kd.R_base ho0) hb); have n2_ := am_ (Kd.R_elder' (by (with_reducible repeat (first | apply Kd.R_alloc | apply Kd.R_drewN | apply Kd.R_drew)); exact HO124.out) (Kd.R_base ho0) hb); have n3_ := am_ (Kd.R_lower (Kd.R_new' (Kd.R_new' (Kd.R_new' ho0 (Kd.R_lt qz20_)) (Kd.R_lt qz19_)) (Kd.R_lt (by (with_reducible repeat (first | apply Kd.R_alloc | apply Kd.R_drewN | apply Kd.R_drew)); exact HO124.out))) (below_size qz3_)); have n4_ := am_ (below_step qz3_ hb); clear HO_6; clear HO_7; clear HO124; clear HB; have HO_6 := n0_; have HO_7 := n1_; have HO124 := n2_; have HO128 := n3_; have HB := n4_; clear n0_ n1_ n2_ n3_ n4_; (try clear hb); (try clear hb2); (try clear hk); (try clear hi); (try clear ho0)) | ((with_reducible refine gate_dst (N := 55) rfl ?_); refine Kd.R_make k34 _ 34 rfl (N := 55) rfl 24 _ _ rfl (l0.length : Int) rfl rfl Try.underlying24 (.agg #[(.int .i64 0), (.int .i64 0)]) 16 info34 rfl (by decide) (by omega) z34 (ok := fun _ => True) (okp := fun _ => True) (k34_mkM _ _ _ z34 ) (fun _ hk => hk) trivial (of_decide_eq_true qz6_) (Nat.le_trans (Nat.mul_le_mul_right _ (of_decide_eq_true qz6_ : (l0.length : Int).toNat ≤ 17592186044416)) (by omega)) (Below.refl _ _) (Nat.le_refl _) ?_; intro v130 w32 ho33 hb hg_ hnew_; clear hg_ hnew_; (first | rw [← Ny129.out] at ho33 | (simp only [Int.reduceToNat] at ho33; rw [← Ny129.out] at ho33)); have n0_ := am_ (Kd.R_elder' qz20_ (Kd.R_base ho33) hb); have n1_ := am_ (Kd.R_elder' qz19_ (Kd.R_base ho33) hb); have n2_ := am_ (Kd.R_elder' (by (with_reducible repeat (first | apply Kd.R_alloc | apply Kd.R_drewN | apply Kd.R_drew)); exact HO124.out) (Kd.R_base ho33) hb); have n3_ := am_ (Kd.R_elder' (by (with_reducible repeat (first | apply Kd.R_alloc | apply Kd.R_drewN | apply Kd.R_drew)); exact HO128.out) (Kd.R_base ho33) hb); have n4_ := am_ (Kd.R_lower (Kd.R_new' (Kd.R_new' (Kd.R_new' (Kd.R_new' ho33 (Kd.R_lt qz20_)) (Kd.R_lt qz19_)) (Kd.R_lt (by (with_reducible repeat (first | apply Kd.R_alloc | apply Kd.R_drewN | apply Kd.R_drew)); exact HO124.out))) (Kd.R_lt (by (with_reducible repeat (first | apply Kd.R_alloc | apply Kd.R_drewN | apply Kd.R_drew)); exact HO128.out))) (below_size qz3_)); have n5_ := am_ (below_step qz3_ hb); clear HO_6; clear HO_7; clear HO124; clear HO128; clear HB; have HO_6 := n0_; have HO_7 := n1_; have HO124 := n2_; have HO128 := n3_; have HO131 := n4_; have HB := n5_; clear n0_ n1_ n2_ n3_ n4_ n5_; clear hb ho33))
       go_loopg [12, 13] k1 (fun kq v12 v13 w' => ∃ (x11_2 : List (S34)) (x12_2 : Int) (x13_2 : Int), v12 = .int .i64 x12_2 ∧ v13 = .int .i64 x13_2 ∧ Aside0 (spec_l07Ntt.l1 kq a1 (l0.length : Int) t122 t126 x11_2 x12_2 x13_2 = some r) ∧ Aside0 (kq ≤ k1) ∧ Aside0 (Kd.R k34 34 w' w.heap.size (fun k_ => some k_ ≠ (v127 : Value).ownBlock ∧ some k_ ≠ (v130 : Value).ownBlock) v123 t122) ∧ Aside0 (Kd.R k34 34 w' w.heap.size (fun k_ => some k_ ≠ (v123 : Value).ownBlock ∧ some k_ ≠ (v130 : Value).ownBlock) v127 t126) ∧ Aside0 (Kd.R k34 34 w' w.heap.size (fun k_ => some k_ ≠ (v123 : Value).ownBlock ∧ some k_ ≠ (v127 : Value).ownBlock) v130 x11_2) ∧ Aside0 (Below w.heap.size w w'))
       case atStart => exact ⟨(y129), (1), (0), qz0_, qz0_, H', ⟨Nat.le_refl _⟩, ⟨by (with_reducible repeat (first | apply Kd.R_alloc | apply Kd.R_drewN | apply Kd.R_drew)); exact Kd.R_mono HO124.out (fun _ hk => ⟨hk.1.2, hk.2⟩)⟩, ⟨by (with_reducible repeat (first | apply Kd.R_alloc | apply Kd.R_drewN | apply Kd.R_drew)); exact Kd.R_mono HO128.out (fun _ hk => ⟨hk.1.2, hk.2⟩)⟩, ⟨by (with_reducible repeat (first | apply Kd.R_alloc | apply Kd.R_drewN | apply Kd.R_drew)); exact Kd.R_mono HO131.out (fun _ hk => ⟨hk.1.2, hk.2⟩)⟩, ⟨qz3_⟩⟩
       case round =>
        clear H'
        try clear c1
        try clear p1
        try clear q1
        try clear hx1
        try clear c2
        try clear p2
        try clear c3
        try clear c3b0
        try clear c3b1
        try clear c4
        try clear p6
        try clear p11
        try clear q11
        try clear hx11
        try clear c12
        try clear c12b0
        try clear c13
        try clear c13b0
        try clear c14
        try clear c14b0
        try clear c15
        try clear c17
        try clear c17b0
        try clear c18
        try clear c18b0
        try clear c19
        try clear c26
        try clear c26b0
        try clear c26b1
        try clear c27
        try clear c27b0
        try clear c27b1
        try clear hx113_0
        try clear hx113_1
        try clear hx117_0
        try clear hx117_1
        try clear p113
        try clear p117
        try clear p2
        try clear q113
        try clear q117
        obtain ⟨x11_2, x12_2, x13_2, rfl, rfl, HA, HK2, HO_9, HO_10, HO_11, HB⟩ := hrel
        cases gk with
        | zero => exact absurd HA.out (by simp [spec_l07Ntt.l1])
        | succ k2 =>
         have H := HA.out
         clear HA
         simp only [spec_l07Ntt.l1] at H
         by_cases c34 : x13_2 < (wrap64 ((l0.length : Int) / 2))
         ·
          rw [if_pos c34] at H
          have c34b0 : decide (x13_2 < (wrap64 ((l0.length : Int) / 2))) = true := decide_eq_true c34
          clear c34
          by_cases c35 : 0 ≤ x13_2
          ·
           rw [if_pos c35] at H
           have c35b0 : decide (0 ≤ x13_2) = true := decide_eq_true c35
           clear c35
           by_cases c36 : x13_2 < (t126.length : Int)
           ·
            rw [if_pos c36] at H
            have c36b0 : decide (x13_2 < (t126.length : Int)) = true := decide_eq_true c36
            clear c36
            replace H := Option.bind_eq_some_iff.mp H
            obtain ⟨⟨t133, t134⟩, A370, H⟩ := H
            replace H : ((spec_l02Mul.f ((rd_T34 t126 x13_2).f0) ((rd_T34 t126 x13_2).f1) t133 t134).bind fun bt135 => (if x13_2 < (t122.length : Int) then ((spec_l02Add.f ((rd_T34 t122 x13_2).f0) ((rd_T34 t122 x13_2).f1) bt135.1 bt135.2).bind fun bt139 => (if x13_2 < (x11_2.length : Int) then ((spec_l02Sub.f ((rd_T34 t122 x13_2).f0) ((rd_T34 t122 x13_2).f1) bt135.1 bt135.2).bind fun bt143 => (if 0 ≤ (wrap64 (x13_2 + (wrap64 ((l0.length : Int) / 2)))) then (if (wrap64 (x13_2 + (wrap64 ((l0.length : Int) / 2)))) < (x11_2.length : Int) then ((spec_l01Mul.f x12_2 a1).bind fun t146 => (spec_l07Ntt.l1 k2 a1 (l0.length : Int) t122 t126 ((x11_2.set (x13_2 : Int).toNat (⟨bt139.1, bt139.2⟩ : S34)).set ((wrap64 (x13_2 + (wrap64 ((l0.length : Int) / 2)))) : Int).toNat (⟨bt143.1, bt143.2⟩ : S34)) t146 (wrap64 (x13_2 + 1)))) else (none)) else (none))) else (none))) else (none))) = some r := H
            have A37 := am_ A370
            clear A370
            replace H := Option.bind_eq_some_iff.mp H
            obtain ⟨⟨t135, t136⟩, A380, H⟩ := H
            replace H : (if x13_2 < (t122.length : Int) then ((spec_l02Add.f ((rd_T34 t122 x13_2).f0) ((rd_T34 t122 x13_2).f1) t135 t136).bind fun bt139 => (if x13_2 < (x11_2.length : Int) then ((spec_l02Sub.f ((rd_T34 t122 x13_2).f0) ((rd_T34 t122 x13_2).f1) t135 t136).bind fun bt143 => (if 0 ≤ (wrap64 (x13_2 + (wrap64 ((l0.length : Int) / 2)))) then (if (wrap64 (x13_2 + (wrap64 ((l0.length : Int) / 2)))) < (x11_2.length : Int) then ((spec_l01Mul.f x12_2 a1).bind fun t146 => (spec_l07Ntt.l1 k2 a1 (l0.length : Int) t122 t126 ((x11_2.set (x13_2 : Int).toNat (⟨bt139.1, bt139.2⟩ : S34)).set ((wrap64 (x13_2 + (wrap64 ((l0.length : Int) / 2)))) : Int).toNat (⟨bt143.1, bt143.2⟩ : S34)) t146 (wrap64 (x13_2 + 1)))) else (none)) else (none))) else (none))) else (none)) = some r := H
            have A38 := am_ A380
            clear A380
            by_cases c39 : x13_2 < (t122.length : Int)
            ·
             rw [if_pos c39] at H
             have c39b0 : decide (x13_2 < (t122.length : Int)) = true := decide_eq_true c39
             clear c39
             replace H := Option.bind_eq_some_iff.mp H
             obtain ⟨⟨t139, t140⟩, A400, H⟩ := H
             replace H : (if x13_2 < (x11_2.length : Int) then ((spec_l02Sub.f ((rd_T34 t122 x13_2).f0) ((rd_T34 t122 x13_2).f1) t135 t136).bind fun bt143 => (if 0 ≤ (wrap64 (x13_2 + (wrap64 ((l0.length : Int) / 2)))) then (if (wrap64 (x13_2 + (wrap64 ((l0.length : Int) / 2)))) < (x11_2.length : Int) then ((spec_l01Mul.f x12_2 a1).bind fun t146 => (spec_l07Ntt.l1 k2 a1 (l0.length : Int) t122 t126 ((x11_2.set (x13_2 : Int).toNat (⟨t139, t140⟩ : S34)).set ((wrap64 (x13_2 + (wrap64 ((l0.length : Int) / 2)))) : Int).toNat (⟨bt143.1, bt143.2⟩ : S34)) t146 (wrap64 (x13_2 + 1)))) else (none)) else (none))) else (none)) = some r := H
             have A40 := am_ A400
             clear A400
             by_cases c41 : x13_2 < (x11_2.length : Int)
             ·
              rw [if_pos c41] at H
              have c41b0 : decide (x13_2 < (x11_2.length : Int)) = true := decide_eq_true c41
              clear c41
              obtain ⟨y141, hy141⟩ : ∃ y_ : List (S34), y_ = (x11_2.set (x13_2 : Int).toNat (⟨t139, t140⟩ : S34)) := ⟨_, rfl⟩
              replace H : ((spec_l02Sub.f ((rd_T34 t122 x13_2).f0) ((rd_T34 t122 x13_2).f1) t135 t136).bind fun bt143 => (if 0 ≤ (wrap64 (x13_2 + (wrap64 ((l0.length : Int) / 2)))) then (if (wrap64 (x13_2 + (wrap64 ((l0.length : Int) / 2)))) < (x11_2.length : Int) then ((spec_l01Mul.f x12_2 a1).bind fun t146 => (spec_l07Ntt.l1 k2 a1 (l0.length : Int) t122 t126 (y141.set ((wrap64 (x13_2 + (wrap64 ((l0.length : Int) / 2)))) : Int).toNat (⟨bt143.1, bt143.2⟩ : S34)) t146 (wrap64 (x13_2 + 1)))) else (none)) else (none))) = some r := by first | (rw [hy141]; with_reducible exact H) | (have H2_ := (Option.bind_some _ _).symm.trans H; rw [hy141]; with_reducible exact H2_) | (have H2_ := (Option.bind_some _ _).symm.trans H; with_reducible exact H2_) | with_reducible exact H | (rw [hy141]; exact H) | exact H
              have Ny141 := am_ hy141
              clear hy141
              replace H := Option.bind_eq_some_iff.mp H
              obtain ⟨⟨t143, t144⟩, A430, H⟩ := H
              replace H : (if 0 ≤ (wrap64 (x13_2 + (wrap64 ((l0.length : Int) / 2)))) then (if (wrap64 (x13_2 + (wrap64 ((l0.length : Int) / 2)))) < (x11_2.length : Int) then ((spec_l01Mul.f x12_2 a1).bind fun t146 => (spec_l07Ntt.l1 k2 a1 (l0.length : Int) t122 t126 (y141.set ((wrap64 (x13_2 + (wrap64 ((l0.length : Int) / 2)))) : Int).toNat (⟨t143, t144⟩ : S34)) t146 (wrap64 (x13_2 + 1)))) else (none)) else (none)) = some r := H
              have A43 := am_ A430
              clear A430
              obtain ⟨ji44, hji44⟩ : ∃ j_ : Int, (wrap64 (x13_2 + (wrap64 ((l0.length : Int) / 2)))) = j_ := ⟨_, rfl⟩
              replace H : (if 0 ≤ (ji44) then (if (ji44) < (x11_2.length : Int) then ((spec_l01Mul.f x12_2 a1).bind fun t146 => (spec_l07Ntt.l1 k2 a1 (l0.length : Int) t122 t126 (y141.set ((ji44) : Int).toNat (⟨t143, t144⟩ : S34)) t146 (wrap64 (x13_2 + 1)))) else (none)) else (none)) = some r := by first | (rw [hji44] at H; exact H) | (simp only [hji44] at H ⊢; exact H)
              (try rw [hji44] at A37)
              (try rw [hji44] at A38)
              (try rw [hji44] at A40)
              (try rw [hji44] at A43)
              have hji44w : (IntKind.i64.wrap (x13_2 + (wrap64 ((l0.length : Int) / 2)))) = ji44 := (i64_w _).trans hji44
              by_cases c45 : 0 ≤ (ji44)
              ·
               rw [if_pos c45] at H
               have c45b0 : decide (0 ≤ (ji44)) = true := decide_eq_true c45
               clear c45
               by_cases c46 : (ji44) < (x11_2.length : Int)
               ·
                rw [if_pos c46] at H
                have c46b0 : decide ((ji44) < (x11_2.length : Int)) = true := decide_eq_true c46
                clear c46
                obtain ⟨y145, hy145⟩ : ∃ y_ : List (S34), y_ = (y141.set ((ji44) : Int).toNat (⟨t143, t144⟩ : S34)) := ⟨_, rfl⟩
                replace H : ((spec_l01Mul.f x12_2 a1).bind fun t146 => (spec_l07Ntt.l1 k2 a1 (l0.length : Int) t122 t126 y145 t146 (wrap64 (x13_2 + 1)))) = some r := by first | (rw [hy145]; with_reducible exact H) | (have H2_ := (Option.bind_some _ _).symm.trans H; rw [hy145]; with_reducible exact H2_) | (have H2_ := (Option.bind_some _ _).symm.trans H; with_reducible exact H2_) | with_reducible exact H | (rw [hy145]; exact H) | exact H
                have Ny145 := am_ hy145
                clear hy145
                replace H := Option.bind_eq_some_iff.mp H
                obtain ⟨t146, A480, H⟩ := H
                replace H : (spec_l07Ntt.l1 k2 a1 (l0.length : Int) t122 t126 y145 t146 (wrap64 (x13_2 + 1))) = some r := H
                have A48 := am_ A480
                clear A480
                have H' := am_ H
                clear H
                try go_wp2
                have n0_ := am_ (Kd.R_drew HO_9.out)
                have n1_ := am_ (Kd.R_drew HO_10.out)
                have n2_ := am_ (Kd.R_drew HO_11.out)
                have n3_ := am_ (below_drew1 HB.out)
                clear HO_9
                clear HO_10
                clear HO_11
                clear HB
                have HO_9 := n0_
                have HO_10 := n1_
                have HO_11 := n2_
                have HB := n3_
                clear n0_ n1_ n2_ n3_
                obtain ⟨Ao50, co50, eo50⟩ := Kd.R_slice HO_10.out
                (first | subst eo50 | (injection eo50 with f1_ f2_ f3_; have f4_ := f1_.symm; have f5_ := f3_.symm; clear f1_ f2_ f3_; subst f4_; subst f5_))
                have p132 : 0 ≤ (x13_2 : Int) := of_decide_eq_true qz6_
                have q132 : x13_2 < (t126.length : Int) := of_decide_eq_true qz6_
                obtain ⟨ad132, e132, hx132_0, hx132_1⟩ := at_T34 (Kd.R_reads' HO_10.out).2.2 x13_2 p132 q132
                cases e132
                replace p132 := eq_true p132
                replace q132 := eq_true q132
                refine start_ (n := 9) (S := fun w' => w'.cell? (ad132.add ((x13_2).toNat * 2)) = some (.int .i64 ((rd_T34 t126 x13_2).f0)) ∧ w'.cell? ⟨(ad132.add ((x13_2).toNat * 2)).block, (ad132.add ((x13_2).toNat * 2)).off + 1, none⟩ = some (.int .i64 ((rd_T34 t126 x13_2).f1))) (ds := []) #[false, false, false, false, false, false, false, false, false] (by kernel_rfl) rfl rfl ⟨hx132_0, hx132_1⟩ (fun hHeld => ?_); refine with_tabW spec_l07Ntt.tab18 spec_l07Ntt.bits18 (fun HT_ HW_ => ?_)
                generalize wr.drew = w49 at HO_9 HO_10 HO_11 HB hx132_0 hx132_1 hHeld ⊢
                refine pure_ (i := 0) (N := some 62) (v := ?_) (a' := ?_) #[true, false, false, false, false, false, false, false, false] rfl rfl (any_of HT_.out (by kernel_rfl)) (fun _ _ _ h => h) (Or.inl ⟨(by rfl), ?_⟩) ?_ ?_
                rotate_left
                ·
                 intro w'
                 go_simp
                 with_reducible rfl
                rotate_left
                ·
                 exact ap_
                refine pure_ (i := 1) (N := some 63) (v := ?_) (a' := ?_) #[true, true, false, false, false, false, false, false, false] rfl rfl (any_of HT_.out (by kernel_rfl)) (fun _ _ _ h => h) (Or.inl ⟨(by rfl), ?_⟩) ?_ ?_
                rotate_left
                ·
                 intro w'
                 go_simp
                 with_reducible rfl
                rotate_left
                ·
                 exact ap_
                refine pure_ (i := 2) (N := some 64) (v := ?_) (a' := ?_) #[true, true, true, false, false, false, false, false, false] rfl rfl (any_of HT_.out (by kernel_rfl)) (fun _ _ _ h => h) (Or.inl ⟨(by rfl), ?_⟩) ?_ ?_
                rotate_left
                ·
                 intro w'
                 go_simp
                 with_reducible rfl
                rotate_left
                ·
                 exact ap_
                refine pure_ (i := 4) (N := some 66) (v := ?_) (a' := ?_) #[true, true, true, false, true, false, false, false, false] rfl rfl (any_of HT_.out (by kernel_rfl)) (fun _ _ _ h => h) (Or.inl ⟨(by rfl), ?_⟩) ?_ ?_
                rotate_left
                ·
                 intro w'
                 go_simp
                 with_reducible rfl
                rotate_left
                ·
                 exact ap_
                refine take_ (i := 3) (N := some 65) (v := ?_) (a' := ?_) #[true, true, true, true, true, false, false, false, false] rfl rfl (take_ofW HT_.out HW_.out (by kernel_rfl)) (fun _ _ _ h => h) (Or.inl ⟨(by rfl), ?_⟩) hHeld ?_ ?_
                rotate_left
                ·
                 rintro w' ⟨s0, s1⟩
                 go_simp
                 with_reducible rfl
                rotate_left
                ·
                 exact ap_
                refine join_ (σ := Nat) 1 #[true, true, true, true, true, true, true, true, false] (fun s_ => [(67, .agg #[.int .i64 t133, .int .i64 t134]), (68, .agg #[.int .i64 t135, .int .i64 t136]), (14, .pointer (some ⟨s_, 0, none⟩))]) (fun s_ w' => (w'.cell? (ad132.add ((x13_2).toNat * 2)) = some (.int .i64 ((rd_T34 t126 x13_2).f0)) ∧ w'.cell? ⟨(ad132.add ((x13_2).toNat * 2)).block, (ad132.add ((x13_2).toNat * 2)).off + 1, none⟩ = some (.int .i64 ((rd_T34 t126 x13_2).f1))) ∧ (Kd.R k34 34 w' w.heap.size (fun k_ => some k_ ≠ (v130 : Value).ownBlock ∧ some k_ ≠ (v123 : Value).ownBlock ∧ k_ ≠ s_) (.slice (some ad132) t126.length co50) t126) ∧ (Kd.R k34 34 w' w.heap.size (fun k_ => some k_ ≠ (.slice (some ad132) t126.length co50 : Value).ownBlock ∧ some k_ ≠ (v123 : Value).ownBlock ∧ k_ ≠ s_) v130 x11_2) ∧ (Kd.R k34 34 w' w.heap.size (fun k_ => some k_ ≠ (.slice (some ad132) t126.length co50 : Value).ownBlock ∧ some k_ ≠ (v130 : Value).ownBlock ∧ k_ ≠ s_) v123 t122) ∧ (w'.heap[s_]? = some (.cells #[.int .i64 0, .int .i64 0] 34 (0, 0))) ∧ (w.heap.size ≤ s_) ∧ (w.heap.size ≤ s_) ∧ (Below w.heap.size w w')) ?_ ?_
                rotate_left
                ·
                 intro hCont
                 refine two_ (i := 5) (j := 7) (Ni := some 67) (Nj := some 14) #[true, true, true, true, true, true, false, false, false] #[true, true, true, true, true, false, false, true, false] rfl rfl rfl rfl (two_of HT_.out (by kernel_rfl)) (by decide) (by decide) (fun K hK => ?_) (fun K hK => ?_)
                 ·
                  skip
                  refine goes_ Try.func150 (by kernel_rfl) rfl #[.int .i64 x12_2] (by rfl) rfl rfl qz2_ ?_
                  with_reducible refine (spec_l02Of.calls x12_2 t133 t134 _ A37.out).mono ?_
                  rintro e w51 ⟨rfl, hb⟩
                  have HS0_ := (hb.cell (World.block_lt_of_cell? _ _ (hHeld.1))).trans (hHeld.1)
                  have HS1_ := (hb.cell (World.block_lt_of_cell? _ _ (hHeld.2))).trans (hHeld.2)
                  refine ⟨_, rfl, ?_⟩
                  have n0_ := am_ (Kd.R_below qz22_ hb)
                  have n1_ := am_ (Kd.R_below qz23_ hb)
                  have n2_ := am_ (Kd.R_below qz24_ hb)
                  have n3_ := am_ (below_step qz3_ hb)
                  clear HO_9
                  clear HO_10
                  clear HO_11
                  clear HB
                  have HO_9 := n0_
                  have HO_10 := n1_
                  have HO_11 := n2_
                  have HB := n3_
                  clear n0_ n1_ n2_ n3_
                  (try clear hb)
                  (try clear hb2)
                  (try clear hk)
                  (try clear hi)
                  refine hK.out _ _ ⟨HS0_, HS1_⟩ (fun hHeld => ?_)
                  clear hK K
                  refine norm_ (a' := ?_) ?_ ?_
                  rotate_left
                  ·
                   show Act.put _ (some 67) _ = _
                   exact ap_
                  refine two_ (i := 6) (j := 7) (Ni := some 68) (Nj := some 14) #[true, true, true, true, true, true, true, false, false] #[true, true, true, true, true, true, false, true, false] rfl rfl rfl rfl (two_of HT_.out (by kernel_rfl)) (by decide) (by decide) (fun K hK => ?_) (fun K hK => ?_)
                  ·
                   skip
                   refine goes_ Try.func149 (by kernel_rfl) rfl #[.agg #[.int .i64 ((rd_T34 t126 x13_2).f0), .int .i64 ((rd_T34 t126 x13_2).f1)], .agg #[.int .i64 t133, .int .i64 t134]] (by rfl) rfl rfl qz2_ ?_
                   with_reducible refine (spec_l02Mul.calls ((rd_T34 t126 x13_2).f0) ((rd_T34 t126 x13_2).f1) t133 t134 t135 t136 _ A38.out).mono ?_
                   rintro e w52 ⟨rfl, hb⟩
                   have HS0_ := (hb.cell (World.block_lt_of_cell? _ _ (hHeld.1))).trans (hHeld.1)
                   have HS1_ := (hb.cell (World.block_lt_of_cell? _ _ (hHeld.2))).trans (hHeld.2)
                   refine ⟨_, rfl, ?_⟩
                   have n0_ := am_ (Kd.R_below qz22_ hb)
                   have n1_ := am_ (Kd.R_below qz23_ hb)
                   have n2_ := am_ (Kd.R_below qz24_ hb)
                   have n3_ := am_ (below_step qz3_ hb)
                   clear HO_9
                   clear HO_10
                   clear HO_11
                   clear HB
                   have HO_9 := n0_
                   have HO_10 := n1_
                   have HO_11 := n2_
                   have HB := n3_
                   clear n0_ n1_ n2_ n3_
                   (try clear hb)
                   (try clear hb2)
                   (try clear hk)
                   (try clear hi)
                   refine hK.out _ _ ⟨HS0_, HS1_⟩ (fun hHeld => ?_)
                   clear hK K
                   refine norm_ (a' := ?_) ?_ ?_
                   rotate_left
                   ·
                    show Act.put _ (some 68) _ = _
                    exact ap_
                   refine one_ (i := 7) (N := some 14) #[true, true, true, true, true, true, true, true, false] rfl rfl (one_of HT_.out (by kernel_rfl)) (by decide) (fun K hK => ?_)
                   refine box_step ?hg (N := 14) ?hd (cs := #[.int .i64 0, .int .i64 0]) (t := 34) ?hr ?_; (case hd => rfl); (case hg => rfl); (case hr => first | (go_simp; done) | (go_simp; rfl))
                   intro gb137 hg w53 hbox hb
                   have HS0_ := (hb.cell (World.block_lt_of_cell? _ _ (hHeld.1))).trans (hHeld.1)
                   have HS1_ := (hb.cell (World.block_lt_of_cell? _ _ (hHeld.2))).trans (hHeld.2)
                   have n0_ := am_ (Kd.R_below (Kd.R_elderB qz22_ gb137 (Nat.le_of_eq hg.symm)) hb)
                   have n1_ := am_ (Kd.R_below (Kd.R_elderB qz23_ gb137 (Nat.le_of_eq hg.symm)) hb)
                   have n2_ := am_ (Kd.R_below (Kd.R_elderB qz24_ gb137 (Nat.le_of_eq hg.symm)) hb)
                   have n3_ := am_ (below_step qz3_ hb)
                   have n4_ := am_ (hbox)
                   have n5_ := am_ ((by rw [hg]; exact (below_size qz3_) : w.heap.size ≤ gb137))
                   have n6_ := am_ ((by rw [hg]; exact (below_size qz3_) : w.heap.size ≤ gb137))
                   clear HO_9
                   clear HO_10
                   clear HO_11
                   clear HB
                   have HO_9 := n0_
                   have HO_10 := n1_
                   have HO_11 := n2_
                   have HB := n3_
                   have BK137 := n4_
                   have GW137 := n5_
                   have GE137 := n6_
                   clear n0_ n1_ n2_ n3_ n4_ n5_ n6_
                   clear hb hbox hg
                   refine hK.out _ _ ⟨HS0_, HS1_⟩ (fun hHeld => ?_)
                   clear hK K
                   refine norm_ (a' := ?_) ?_ ?_
                   rotate_left
                   ·
                    show Act.put _ (some 14) _ = _
                    exact ap_
                   exact norm_ qz25_ (hCont (gb137) _ ⟨hHeld, (by (with_reducible repeat (first | apply Kd.R_alloc | apply Kd.R_drewN | apply Kd.R_drew)); exact Kd.R_mono HO_10.out (fun _ hk => ⟨hk.1.2, ⟨hk.1.1, hk.2⟩⟩)), (by (with_reducible repeat (first | apply Kd.R_alloc | apply Kd.R_drewN | apply Kd.R_drew)); exact Kd.R_mono HO_11.out (fun _ hk => ⟨hk.1.2, ⟨hk.1.1, hk.2⟩⟩)), (by (with_reducible repeat (first | apply Kd.R_alloc | apply Kd.R_drewN | apply Kd.R_drew)); exact Kd.R_mono HO_9.out (fun _ hk => ⟨hk.1.1, ⟨hk.1.2, hk.2⟩⟩)), qz26_, GW137.out, GE137.out, qz27_⟩)
                  ·
                   skip
                   refine box_step ?hg (N := 14) ?hd (cs := #[.int .i64 0, .int .i64 0]) (t := 34) ?hr ?_; (case hd => rfl); (case hg => rfl); (case hr => first | (go_simp; done) | (go_simp; rfl))
                   intro gb137 hg w52 hbox hb
                   have HS0_ := (hb.cell (World.block_lt_of_cell? _ _ (hHeld.1))).trans (hHeld.1)
                   have HS1_ := (hb.cell (World.block_lt_of_cell? _ _ (hHeld.2))).trans (hHeld.2)
                   have n0_ := am_ (Kd.R_below (Kd.R_elderB qz22_ gb137 (Nat.le_of_eq hg.symm)) hb)
                   have n1_ := am_ (Kd.R_below (Kd.R_elderB qz23_ gb137 (Nat.le_of_eq hg.symm)) hb)
                   have n2_ := am_ (Kd.R_below (Kd.R_elderB qz24_ gb137 (Nat.le_of_eq hg.symm)) hb)
                   have n3_ := am_ (below_step qz3_ hb)
                   have n4_ := am_ (hbox)
                   have n5_ := am_ ((by rw [hg]; exact (below_size qz3_) : w.heap.size ≤ gb137))
                   have n6_ := am_ ((by rw [hg]; exact (below_size qz3_) : w.heap.size ≤ gb137))
                   clear HO_9
                   clear HO_10
                   clear HO_11
                   clear HB
                   have HO_9 := n0_
                   have HO_10 := n1_
                   have HO_11 := n2_
                   have HB := n3_
                   have BK137 := n4_
                   have GW137 := n5_
                   have GE137 := n6_
                   clear n0_ n1_ n2_ n3_ n4_ n5_ n6_
                   clear hb hbox hg
                   refine hK.out _ _ ⟨HS0_, HS1_⟩ (fun hHeld => ?_)
                   clear hK K
                   refine norm_ (a' := ?_) ?_ ?_
                   rotate_left
                   ·
                    show Act.put _ (some 14) _ = _
                    exact ap_
                   refine one_ (i := 6) (N := some 68) #[true, true, true, true, true, true, true, true, false] rfl rfl (one_of HT_.out (by kernel_rfl)) (by decide) (fun K hK => ?_)
                   refine goes_ Try.func149 (by kernel_rfl) rfl #[.agg #[.int .i64 ((rd_T34 t126 x13_2).f0), .int .i64 ((rd_T34 t126 x13_2).f1)], .agg #[.int .i64 t133, .int .i64 t134]] (by rfl) rfl rfl qz2_ ?_
                   with_reducible refine (spec_l02Mul.calls ((rd_T34 t126 x13_2).f0) ((rd_T34 t126 x13_2).f1) t133 t134 t135 t136 _ A38.out).mono ?_
                   rintro e w53 ⟨rfl, hb⟩
                   have HS0_ := (hb.cell (World.block_lt_of_cell? _ _ (hHeld.1))).trans (hHeld.1)
                   have HS1_ := (hb.cell (World.block_lt_of_cell? _ _ (hHeld.2))).trans (hHeld.2)
                   refine ⟨_, rfl, ?_⟩
                   have n0_ := am_ (Kd.R_below qz22_ hb)
                   have n1_ := am_ (Kd.R_below qz23_ hb)
                   have n2_ := am_ (Kd.R_below qz24_ hb)
                   have n3_ := am_ (blk_below (g := gb137) (o := .cells #[.int .i64 0, .int .i64 0] 34 (0, 0)) qz26_ hb)
                   have n4_ := am_ (below_step qz27_ hb)
                   clear HO_9
                   clear HO_10
                   clear HO_11
                   clear BK137
                   clear HB
                   have HO_9 := n0_
                   have HO_10 := n1_
                   have HO_11 := n2_
                   have BK137 := n3_
                   have HB := n4_
                   clear n0_ n1_ n2_ n3_ n4_
                   (try clear hb)
                   (try clear hb2)
                   (try clear hk)
                   (try clear hi)
                   refine hK.out _ _ ⟨HS0_, HS1_⟩ (fun hHeld => ?_)
                   clear hK K
                   refine norm_ (a' := ?_) ?_ ?_
                   rotate_left
                   ·
                    show Act.put _ (some 68) _ = _
                    exact ap_
                   exact norm_ qz25_ (hCont (gb137) _ ⟨hHeld, (by (with_reducible repeat (first | apply Kd.R_alloc | apply Kd.R_drewN | apply Kd.R_drew)); exact Kd.R_mono HO_10.out (fun _ hk => ⟨hk.1.2, ⟨hk.1.1, hk.2⟩⟩)), (by (with_reducible repeat (first | apply Kd.R_alloc | apply Kd.R_drewN | apply Kd.R_drew)); exact Kd.R_mono HO_11.out (fun _ hk => ⟨hk.1.2, ⟨hk.1.1, hk.2⟩⟩)), (by (with_reducible repeat (first | apply Kd.R_alloc | apply Kd.R_drewN | apply Kd.R_drew)); exact Kd.R_mono HO_9.out (fun _ hk => ⟨hk.1.1, ⟨hk.1.2, hk.2⟩⟩)), qz26_, GW137.out, GE137.out, qz27_⟩)
                 ·
                  skip
                  refine box_step ?hg (N := 14) ?hd (cs := #[.int .i64 0, .int .i64 0]) (t := 34) ?hr ?_; (case hd => rfl); (case hg => rfl); (case hr => first | (go_simp; done) | (go_simp; rfl))
                  intro gb137 hg w51 hbox hb
                  have HS0_ := (hb.cell (World.block_lt_of_cell? _ _ (hHeld.1))).trans (hHeld.1)
                  have HS1_ := (hb.cell (World.block_lt_of_cell? _ _ (hHeld.2))).trans (hHeld.2)
                  have n0_ := am_ (Kd.R_below (Kd.R_elderB qz22_ gb137 (Nat.le_of_eq hg.symm)) hb)
                  have n1_ := am_ (Kd.R_below (Kd.R_elderB qz23_ gb137 (Nat.le_of_eq hg.symm)) hb)
                  have n2_ := am_ (Kd.R_below (Kd.R_elderB qz24_ gb137 (Nat.le_of_eq hg.symm)) hb)
                  have n3_ := am_ (below_step qz3_ hb)
                  have n4_ := am_ (hbox)
                  have n5_ := am_ ((by rw [hg]; exact (below_size qz3_) : w.heap.size ≤ gb137))
                  have n6_ := am_ ((by rw [hg]; exact (below_size qz3_) : w.heap.size ≤ gb137))
                  clear HO_9
                  clear HO_10
                  clear HO_11
                  clear HB
                  have HO_9 := n0_
                  have HO_10 := n1_
                  have HO_11 := n2_
                  have HB := n3_
                  have BK137 := n4_
                  have GW137 := n5_
                  have GE137 := n6_
                  clear n0_ n1_ n2_ n3_ n4_ n5_ n6_
                  clear hb hbox hg
                  refine hK.out _ _ ⟨HS0_, HS1_⟩ (fun hHeld => ?_)
                  clear hK K
                  refine norm_ (a' := ?_) ?_ ?_
                  rotate_left
                  ·
                   show Act.put _ (some 14) _ = _
                   exact ap_
                  refine one_ (i := 5) (N := some 67) #[true, true, true, true, true, true, false, true, false] rfl rfl (one_of HT_.out (by kernel_rfl)) (by decide) (fun K hK => ?_)
                  refine goes_ Try.func150 (by kernel_rfl) rfl #[.int .i64 x12_2] (by rfl) rfl rfl qz2_ ?_
                  with_reducible refine (spec_l02Of.calls x12_2 t133 t134 _ A37.out).mono ?_
                  rintro e w52 ⟨rfl, hb⟩
                  have HS0_ := (hb.cell (World.block_lt_of_cell? _ _ (hHeld.1))).trans (hHeld.1)
                  have HS1_ := (hb.cell (World.block_lt_of_cell? _ _ (hHeld.2))).trans (hHeld.2)
                  refine ⟨_, rfl, ?_⟩
                  have n0_ := am_ (Kd.R_below qz22_ hb)
                  have n1_ := am_ (Kd.R_below qz23_ hb)
                  have n2_ := am_ (Kd.R_below qz24_ hb)
                  have n3_ := am_ (blk_below (g := gb137) (o := .cells #[.int .i64 0, .int .i64 0] 34 (0, 0)) qz26_ hb)
                  have n4_ := am_ (below_step qz27_ hb)
                  clear HO_9
                  clear HO_10
                  clear HO_11
                  clear BK137
                  clear HB
                  have HO_9 := n0_
                  have HO_10 := n1_
                  have HO_11 := n2_
                  have BK137 := n3_
                  have HB := n4_
                  clear n0_ n1_ n2_ n3_ n4_
                  (try clear hb)
                  (try clear hb2)
                  (try clear hk)
                  (try clear hi)
                  refine hK.out _ _ ⟨HS0_, HS1_⟩ (fun hHeld => ?_)
                  clear hK K
                  refine norm_ (a' := ?_) ?_ ?_
                  rotate_left
                  ·
                   show Act.put _ (some 67) _ = _
                   exact ap_
                  refine one_ (i := 6) (N := some 68) #[true, true, true, true, true, true, true, true, false] rfl rfl (one_of HT_.out (by kernel_rfl)) (by decide) (fun K hK => ?_)
                  refine goes_ Try.func149 (by kernel_rfl) rfl #[.agg #[.int .i64 ((rd_T34 t126 x13_2).f0), .int .i64 ((rd_T34 t126 x13_2).f1)], .agg #[.int .i64 t133, .int .i64 t134]] (by rfl) rfl rfl qz2_ ?_
                  with_reducible refine (spec_l02Mul.calls ((rd_T34 t126 x13_2).f0) ((rd_T34 t126 x13_2).f1) t133 t134 t135 t136 _ A38.out).mono ?_
                  rintro e w53 ⟨rfl, hb⟩
                  have HS0_ := (hb.cell (World.block_lt_of_cell? _ _ (hHeld.1))).trans (hHeld.1)
                  have HS1_ := (hb.cell (World.block_lt_of_cell? _ _ (hHeld.2))).trans (hHeld.2)
                  refine ⟨_, rfl, ?_⟩
                  have n0_ := am_ (Kd.R_below qz22_ hb)
                  have n1_ := am_ (Kd.R_below qz23_ hb)
                  have n2_ := am_ (Kd.R_below qz24_ hb)
                  have n3_ := am_ (blk_below (g := gb137) (o := .cells #[.int .i64 0, .int .i64 0] 34 (0, 0)) qz26_ hb)
                  have n4_ := am_ (below_step qz27_ hb)
                  clear HO_9
                  clear HO_10
                  clear HO_11
                  clear BK137
                  clear HB
                  have HO_9 := n0_
                  have HO_10 := n1_
                  have HO_11 := n2_
                  have BK137 := n3_
                  have HB := n4_
                  clear n0_ n1_ n2_ n3_ n4_
                  (try clear hb)
                  (try clear hb2)
                  (try clear hk)
                  (try clear hi)
                  refine hK.out _ _ ⟨HS0_, HS1_⟩ (fun hHeld => ?_)
                  clear hK K
                  refine norm_ (a' := ?_) ?_ ?_
                  rotate_left
                  ·
                   show Act.put _ (some 68) _ = _
                   exact ap_
                  exact norm_ qz25_ (hCont (gb137) _ ⟨hHeld, (by (with_reducible repeat (first | apply Kd.R_alloc | apply Kd.R_drewN | apply Kd.R_drew)); exact Kd.R_mono HO_10.out (fun _ hk => ⟨hk.1.2, ⟨hk.1.1, hk.2⟩⟩)), (by (with_reducible repeat (first | apply Kd.R_alloc | apply Kd.R_drewN | apply Kd.R_drew)); exact Kd.R_mono HO_11.out (fun _ hk => ⟨hk.1.2, ⟨hk.1.1, hk.2⟩⟩)), (by (with_reducible repeat (first | apply Kd.R_alloc | apply Kd.R_drewN | apply Kd.R_drew)); exact Kd.R_mono HO_9.out (fun _ hk => ⟨hk.1.1, ⟨hk.1.2, hk.2⟩⟩)), qz26_, GW137.out, GE137.out, qz27_⟩)
                rintro gb137 w54 ⟨hS_, h0_, h1_, h2_, h3_, h4_, h5_, h6_⟩
                have n0_ : Aside0 (Kd.R k34 34 w54 w.heap.size (fun k_ => some k_ ≠ (v130 : Value).ownBlock ∧ some k_ ≠ (v123 : Value).ownBlock ∧ k_ ≠ gb137) (.slice (some ad132) t126.length co50) t126) := ⟨h0_⟩
                have n1_ : Aside0 (Kd.R k34 34 w54 w.heap.size (fun k_ => some k_ ≠ (.slice (some ad132) t126.length co50 : Value).ownBlock ∧ some k_ ≠ (v123 : Value).ownBlock ∧ k_ ≠ gb137) v130 x11_2) := ⟨h1_⟩
                have n2_ : Aside0 (Kd.R k34 34 w54 w.heap.size (fun k_ => some k_ ≠ (.slice (some ad132) t126.length co50 : Value).ownBlock ∧ some k_ ≠ (v130 : Value).ownBlock ∧ k_ ≠ gb137) v123 t122) := ⟨h2_⟩
                have n3_ : Aside0 (w54.heap[gb137]? = some (.cells #[.int .i64 0, .int .i64 0] 34 (0, 0))) := ⟨h3_⟩
                have n4_ : Aside0 (w.heap.size ≤ gb137) := ⟨h4_⟩
                have n5_ : Aside0 (w.heap.size ≤ gb137) := ⟨h5_⟩
                have n6_ : Aside0 (Below w.heap.size w w54) := ⟨h6_⟩
                clear HO_9
                clear HO_10
                clear HO_11
                clear HB
                clear h0_ h1_ h2_ h3_ h4_ h5_ h6_
                have HO_10 := n0_
                have HO_11 := n1_
                have HO_9 := n2_
                have BK137 := n3_
                have GW137 := n4_
                have GE137 := n5_
                have HB := n6_
                clear n0_ n1_ n2_ n3_ n4_ n5_ n6_
                have hHeld : w54.cell? (ad132.add ((x13_2).toNat * 2)) = some (.int .i64 ((rd_T34 t126 x13_2).f0)) ∧ w54.cell? ⟨(ad132.add ((x13_2).toNat * 2)).block, (ad132.add ((x13_2).toNat * 2)).off + 1, none⟩ = some (.int .i64 ((rd_T34 t126 x13_2).f1)) := hS_
                refine norm_ (a' := ?_) ?_ ?_
                rotate_left
                ·
                 simp only [putAll, Act.put, List.setIfInBounds_toArray, List.set_cons_zero, List.set_cons_succ]
                 rfl
                refine one_ (i := 8) (N := none) #[true, true, true, true, true, true, true, true, true] rfl rfl (one_of HT_.out (by kernel_rfl)) (by decide) (fun K hK => ?_)
                have hs55 : w54.cell? ⟨gb137, 0, none⟩ = some (.int .i64 0) := (blk_cell BK137.out 0).trans rfl
                have hfs55 := blk_frozen BK137.out 0
                have hs56 : w54.cell? ⟨gb137, 1, none⟩ = some (.int .i64 0) := (blk_cell BK137.out 1).trans rfl
                have hfs56 := blk_frozen BK137.out 1
                refine skip_ (w1 := ?_) (by rfl) rfl ?_ ?_
                rotate_left
                ·
                 go_simp
                 rfl
                refine hK.out _ _ ⟨((cell_far (p := ⟨gb137, _, none⟩) qz28_ _).trans (((cell_far (p := ⟨gb137, _, none⟩) qz28_ _).trans (hHeld.1)))), ((cell_far (p := ⟨gb137, _, none⟩) qz28_ _).trans (((cell_far (p := ⟨gb137, _, none⟩) qz28_ _).trans (hHeld.2))))⟩ (fun hHeld => ?_)
                clear hK K
                refine done_ (done_of HT_.out (by kernel_rfl)) ?_
                try go_wp2
                have n0_ : Aside0 (Kd.R k34 34 ((w54.setCell ⟨gb137, 0, none⟩ (.int .i64 t135)).setCell ⟨gb137, 1, none⟩ (.int .i64 t136)) w.heap.size (fun k_ => some k_ ≠ (.slice (some ad132) t126.length co50 : Value).ownBlock ∧ some k_ ≠ (v130 : Value).ownBlock ∧ k_ ≠ gb137) v123 t122) := ⟨by (with_reducible repeat (first | apply Kd.R_alloc | apply Kd.R_drewN | apply Kd.R_drew)); exact Kd.R_mono (Kd.R_far (p := ⟨gb137, 1, none⟩) (Kd.R_far (p := ⟨gb137, 0, none⟩) (Kd.R_mono HO_9.out (fun k_ hk => (⟨hk, hk.2.2⟩ : _ ∧ k_ ≠ gb137))) (fun _ hk => hk.2) (.int .i64 t135)) (fun _ hk => hk.2) (.int .i64 t136)) (fun _ hk => ⟨hk.1.1, ⟨hk.1.2.1, hk.1.2.2⟩⟩)⟩
                have n1_ : Aside0 (Kd.R k34 34 ((w54.setCell ⟨gb137, 0, none⟩ (.int .i64 t135)).setCell ⟨gb137, 1, none⟩ (.int .i64 t136)) w.heap.size (fun k_ => some k_ ≠ (v123 : Value).ownBlock ∧ some k_ ≠ (v130 : Value).ownBlock ∧ k_ ≠ gb137) (.slice (some ad132) t126.length co50) t126) := ⟨by (with_reducible repeat (first | apply Kd.R_alloc | apply Kd.R_drewN | apply Kd.R_drew)); exact Kd.R_mono (Kd.R_far (p := ⟨gb137, 1, none⟩) (Kd.R_far (p := ⟨gb137, 0, none⟩) (Kd.R_mono HO_10.out (fun k_ hk => (⟨hk, hk.2.2⟩ : _ ∧ k_ ≠ gb137))) (fun _ hk => hk.2) (.int .i64 t135)) (fun _ hk => hk.2) (.int .i64 t136)) (fun _ hk => ⟨hk.1.2.1, ⟨hk.1.1, hk.1.2.2⟩⟩)⟩
                have n2_ : Aside0 (Kd.R k34 34 ((w54.setCell ⟨gb137, 0, none⟩ (.int .i64 t135)).setCell ⟨gb137, 1, none⟩ (.int .i64 t136)) w.heap.size (fun k_ => some k_ ≠ (v123 : Value).ownBlock ∧ some k_ ≠ (.slice (some ad132) t126.length co50 : Value).ownBlock ∧ k_ ≠ gb137) v130 x11_2) := ⟨by (with_reducible repeat (first | apply Kd.R_alloc | apply Kd.R_drewN | apply Kd.R_drew)); exact Kd.R_mono (Kd.R_far (p := ⟨gb137, 1, none⟩) (Kd.R_far (p := ⟨gb137, 0, none⟩) (Kd.R_mono HO_11.out (fun k_ hk => (⟨hk, hk.2.2⟩ : _ ∧ k_ ≠ gb137))) (fun _ hk => hk.2) (.int .i64 t135)) (fun _ hk => hk.2) (.int .i64 t136)) (fun _ hk => ⟨hk.1.2.1, ⟨hk.1.1, hk.1.2.2⟩⟩)⟩
                have n3_ : Aside0 (((w54.setCell ⟨gb137, 0, none⟩ (.int .i64 t135)).setCell ⟨gb137, 1, none⟩ (.int .i64 t136)).heap[gb137]? = some (.cells #[.int .i64 t135, .int .i64 t136] 34 (0, 0))) := ⟨(by (with_reducible repeat (first | refine blk_drewN ?_ _ | refine blk_drew ?_ | refine blk_alloc ?_ _)); refine blk_put (cs := #[.int .i64 t135, .int .i64 0]) ?_ 1 _ rfl; (with_reducible repeat (first | refine blk_drewN ?_ _ | refine blk_drew ?_ | refine blk_alloc ?_ _)); refine blk_put (cs := #[.int .i64 0, .int .i64 0]) ?_ 0 _ rfl; (with_reducible repeat (first | refine blk_drewN ?_ _ | refine blk_drew ?_ | refine blk_alloc ?_ _)); exact BK137.out)⟩
                have n4_ : Aside0 (Below w.heap.size w ((w54.setCell ⟨gb137, 0, none⟩ (.int .i64 t135)).setCell ⟨gb137, 1, none⟩ (.int .i64 t136))) := ⟨qz27_⟩
                (try clear HO_9)
                (try clear HO_10)
                (try clear HO_11)
                (try clear BK137)
                (try clear HB)
                generalize ((w54.setCell ⟨gb137, 0, none⟩ (.int .i64 t135)).setCell ⟨gb137, 1, none⟩ (.int .i64 t136)) = w57 at n0_ n1_ n2_ n3_ n4_ ⊢
                have HO_9 := n0_
                have HO_10 := n1_
                have HO_11 := n2_
                have BK137 := n3_
                have HB := n4_
                clear n0_ n1_ n2_ n3_ n4_
                have n0_ := am_ (Kd.R_drew HO_9.out)
                have n1_ := am_ (Kd.R_drew HO_10.out)
                have n2_ := am_ (Kd.R_drew HO_11.out)
                have n3_ := am_ (blk_drew BK137.out)
                have n4_ := am_ (below_drew1 HB.out)
                clear HO_9
                clear HO_10
                clear HO_11
                clear BK137
                clear HB
                have HO_9 := n0_
                have HO_10 := n1_
                have HO_11 := n2_
                have BK137 := n3_
                have HB := n4_
                clear n0_ n1_ n2_ n3_ n4_
                obtain ⟨Ao59, co59, eo59⟩ := Kd.R_slice HO_9.out
                (first | subst eo59 | (injection eo59 with f1_ f2_ f3_; have f4_ := f1_.symm; have f5_ := f3_.symm; clear f1_ f2_ f3_; subst f4_; subst f5_))
                have p138 : 0 ≤ (x13_2 : Int) := of_decide_eq_true qz6_
                have q138 : x13_2 < (t122.length : Int) := of_decide_eq_true qz6_
                obtain ⟨ad138, e138, hx138_0, hx138_1⟩ := at_T34 (Kd.R_reads' HO_9.out).2.2 x13_2 p138 q138
                cases e138
                replace p138 := eq_true p138
                replace q138 := eq_true q138
                refine start_ (n := 10) (S := fun w' => w'.cell? ⟨gb137, 0, none⟩ = some (.int .i64 t135) ∧ w'.cell? ⟨gb137, 1, none⟩ = some (.int .i64 t136) ∧ w'.cell? (ad138.add ((x13_2).toNat * 2)) = some (.int .i64 ((rd_T34 t122 x13_2).f0)) ∧ w'.cell? ⟨(ad138.add ((x13_2).toNat * 2)).block, (ad138.add ((x13_2).toNat * 2)).off + 1, none⟩ = some (.int .i64 ((rd_T34 t122 x13_2).f1))) (ds := [9]) #[false, false, false, false, false, false, false, false, false, false] (by kernel_rfl) rfl rfl ⟨(blk_cell BK137.out 0).trans rfl, (blk_cell BK137.out 1).trans rfl, hx138_0, hx138_1⟩ (fun hHeld => ?_); refine with_tabW spec_l07Ntt.tab19 spec_l07Ntt.bits19 (fun HT_ HW_ => ?_)
                generalize w57.drew = w58 at HO_9 HO_10 HO_11 BK137 HB hx138_0 hx138_1 hHeld ⊢
                refine pure_ (i := 0) (N := some 69) (v := ?_) (a' := ?_) #[true, false, false, false, false, false, false, false, false, false] rfl rfl (any_of HT_.out (by kernel_rfl)) (fun _ _ _ h => h) (Or.inl ⟨(by rfl), ?_⟩) ?_ ?_
                rotate_left
                ·
                 intro w'
                 go_simp
                 with_reducible rfl
                rotate_left
                ·
                 exact ap_
                refine pure_ (i := 1) (N := some 70) (v := ?_) (a' := ?_) #[true, true, false, false, false, false, false, false, false, false] rfl rfl (any_of HT_.out (by kernel_rfl)) (fun _ _ _ h => h) (Or.inl ⟨(by rfl), ?_⟩) ?_ ?_
                rotate_left
                ·
                 intro w'
                 go_simp
                 with_reducible rfl
                rotate_left
                ·
                 exact ap_
                refine pure_ (i := 2) (N := some 71) (v := ?_) (a' := ?_) #[true, true, true, false, false, false, false, false, false, false] rfl rfl (any_of HT_.out (by kernel_rfl)) (fun _ _ _ h => h) (Or.inl ⟨(by rfl), ?_⟩) ?_ ?_
                rotate_left
                ·
                 intro w'
                 go_simp
                 with_reducible rfl
                rotate_left
                ·
                 exact ap_
                refine pure_ (i := 3) (N := some 72) (v := ?_) (a' := ?_) #[true, true, true, true, false, false, false, false, false, false] rfl rfl (any_of HT_.out (by kernel_rfl)) (fun _ _ _ h => h) (Or.inl ⟨(by rfl), ?_⟩) ?_ ?_
                rotate_left
                ·
                 intro w'
                 go_simp
                 with_reducible rfl
                rotate_left
                ·
                 exact ap_
                refine pure_ (i := 4) (N := some 73) (v := ?_) (a' := ?_) #[true, true, true, true, true, false, false, false, false, false] rfl rfl (any_of HT_.out (by kernel_rfl)) (fun _ _ _ h => h) (Or.inl ⟨(by rfl), ?_⟩) ?_ ?_
                rotate_left
                ·
                 intro w'
                 go_simp
                 with_reducible rfl
                rotate_left
                ·
                 exact ap_
                refine take_ (i := 5) (N := some 74) (v := ?_) (a' := ?_) #[true, true, true, true, true, true, false, false, false, false] rfl rfl (take_ofW HT_.out HW_.out (by kernel_rfl)) (fun _ _ _ h => h) (Or.inl ⟨(by rfl), ?_⟩) hHeld ?_ ?_
                rotate_left
                ·
                 rintro w' ⟨s0, s1, s2, s3⟩
                 go_simp
                 with_reducible rfl
                rotate_left
                ·
                 exact ap_
                refine take_ (i := 6) (N := some 75) (v := ?_) (a' := ?_) #[true, true, true, true, true, true, true, false, false, false] rfl rfl (take_ofW HT_.out HW_.out (by kernel_rfl)) (fun _ _ _ h => h) (Or.inl ⟨(by rfl), ?_⟩) hHeld ?_ ?_
                rotate_left
                ·
                 rintro w' ⟨s0, s1, s2, s3⟩
                 go_simp
                 with_reducible rfl
                rotate_left
                ·
                 exact ap_
                refine one_ (i := 7) (N := some 76) #[true, true, true, true, true, true, true, true, false, false] rfl rfl (one_of HT_.out (by kernel_rfl)) (by decide) (fun K hK => ?_)
                refine goes_ Try.func116 (by kernel_rfl) rfl #[.agg #[.int .i64 ((rd_T34 t122 x13_2).f0), .int .i64 ((rd_T34 t122 x13_2).f1)], .agg #[.int .i64 t135, .int .i64 t136]] (by rfl) rfl rfl qz2_ ?_
                with_reducible refine (spec_l02Add.calls ((rd_T34 t122 x13_2).f0) ((rd_T34 t122 x13_2).f1) t135 t136 t139 t140 _ A40.out).mono ?_
                rintro e w60 ⟨rfl, hb⟩
                have HS2_ := (hb.cell (World.block_lt_of_cell? _ _ (hHeld.2.2.1))).trans (hHeld.2.2.1)
                have HS3_ := (hb.cell (World.block_lt_of_cell? _ _ (hHeld.2.2.2))).trans (hHeld.2.2.2)
                refine ⟨_, rfl, ?_⟩
                have n0_ := am_ (Kd.R_below qz22_ hb)
                have n1_ := am_ (Kd.R_below qz23_ hb)
                have n2_ := am_ (Kd.R_below qz24_ hb)
                have n3_ := am_ (blk_below (g := gb137) (o := .cells #[.int .i64 t135, .int .i64 t136] 34 (0, 0)) qz26_ hb)
                have n4_ := am_ (below_step qz27_ hb)
                clear HO_9
                clear HO_10
                clear HO_11
                clear BK137
                clear HB
                have HO_9 := n0_
                have HO_10 := n1_
                have HO_11 := n2_
                have BK137 := n3_
                have HB := n4_
                clear n0_ n1_ n2_ n3_ n4_
                (try clear hb)
                (try clear hb2)
                (try clear hk)
                (try clear hi)
                have p42 : 0 ≤ (x13_2 : Int) := of_decide_eq_true qz6_
                have q42 : (x13_2 : Int) < ((x11_2.length : Int) : Int) := of_decide_eq_true qz6_
                obtain ⟨go42, co42, eo42, gb42, gl42, cl42, HG42⟩ := Kd.R_form HO_11.out (by omega)
                (first | cases eo42 | (injection eo42 with ea_ en_ ec_; (first | subst ea_ | (injection ea_ with ea_; subst ea_)); subst ec_; clear en_))
                have GB42 := am_ gb42
                have GG42 := am_ HG42
                clear gb42 gl42 HG42
                obtain ⟨ce42, hcl42, hM42, hcc42, hfr42⟩ := Kd.R_elem HO_11.out z34 (x13_2 : Int) p42 q42
                obtain rfl := k34_openM hM42
                have hx42_0 : World.cell? _ ⟨go42, (x13_2 : Int).toNat * 2, none⟩ = some (.int .i64 ((rd_T34 x11_2 x13_2).f0)) := hcc42 0 _ rfl
                have hx42_1 : World.cell? _ ⟨go42, (x13_2 : Int).toNat * 2 + 1, none⟩ = some (.int .i64 ((rd_T34 x11_2 x13_2).f1)) := hcc42 1 _ rfl
                have hf42_0 : World.frozen? _ ⟨go42, (x13_2 : Int).toNat * 2, none⟩ = false := hfr42 0
                have hf42_1 : World.frozen? _ ⟨go42, (x13_2 : Int).toNat * 2 + 1, none⟩ = false := hfr42 1
                (try clear hcl42); (try clear hcc42); (try clear hfr42); (try clear hM42)
                replace p42 := eq_true p42
                replace q42 := eq_true q42
                obtain ⟨ce61, hcl61, hM61, hcc61, hfr61⟩ := Kd.R_elem HO_11.out z34 (x13_2 : Int) (of_decide_eq_true qz6_) (by have h_ : (x13_2 : Int) < ((x11_2.length : Int) : Int) := of_decide_eq_true qz6_; first | exact h_ | (have e_ := (Kd.R_reads' HO_11.out).1; omega) | simpa using h_)
                obtain rfl := k34_openM hM61
                have HP61 := (Kd.R_seg HO_11.out (x13_2 : Int) (of_decide_eq_true qz6_) (by have h_ : (x13_2 : Int) < ((x11_2.length : Int) : Int) := of_decide_eq_true qz6_; first | exact h_ | (have e_ := (Kd.R_reads' HO_11.out).1; omega) | simpa using h_) (seg := [.int .i64 t139, .int .i64 t140]) (j := 0) hcl61 hcc61 (show 2 ≤ 2 from by decide) (x' := (⟨t139, t140⟩ : S34)) (k34_mkM _ _ _ (⟨t139, t140⟩ : S34) ) (fun _ hk => hk)).1
                rw [← Ny141.out] at HP61
                have HQ61 := am_ HP61
                (try clear hcl61); (try clear hcc61); (try clear hfr61); (try clear hM61); (try clear HP61)
                refine hK.out _ _ ⟨(blk_cell BK137.out 0).trans rfl, (blk_cell BK137.out 1).trans rfl, HS2_, HS3_⟩ (fun hHeld => ?_)
                clear hK K
                refine norm_ (a' := ?_) ?_ ?_
                rotate_left
                ·
                 show Act.put _ (some 76) _ = _
                 exact ap_
                refine pure_ (i := 8) (N := some 77) (v := ?_) (a' := ?_) #[true, true, true, true, true, true, true, true, true, false] rfl rfl (any_of HT_.out (by kernel_rfl)) (fun _ _ _ h => h) (Or.inl ⟨(by rfl), ?_⟩) ?_ ?_
                rotate_left
                ·
                 intro w'
                 go_simp
                 with_reducible rfl
                rotate_left
                ·
                 exact ap_
                refine last_ (i := 9) (N := none) #[true, true, true, true, true, true, true, true, true, true] rfl rfl (one_of HT_.out (by kernel_rfl)) (by decide) (fun K hK => ?_)
                refine skip_ (w1 := ?_) (by rfl) rfl ?_ ?_
                rotate_left
                ·
                 go_simp
                 rfl
                refine hK.out _ _ ?_
                clear hK K
                refine done_ (done_of HT_.out (by kernel_rfl)) ?_
                try go_wp2
                have n0_ : Aside0 (Kd.R k34 34 ((w60.setCell ⟨go42, (x13_2 : Int).toNat * 2, none⟩ (.int .i64 t139)).setCell ⟨go42, (x13_2 : Int).toNat * 2 + 1, none⟩ (.int .i64 t140)) w.heap.size (fun k_ => some k_ ≠ (.slice (some ad132) t126.length co50 : Value).ownBlock ∧ some k_ ≠ (.slice (some ⟨go42, 0, none⟩) x11_2.length co42 : Value).ownBlock ∧ k_ ≠ gb137) (.slice (some ad138) t122.length co59) t122) := ⟨by (with_reducible repeat (first | apply Kd.R_alloc | apply Kd.R_drewN | apply Kd.R_drew)); exact Kd.R_mono (Kd.R_far (p := ⟨go42, (x13_2 : Int).toNat * 2 + 1, none⟩) (Kd.R_far (p := ⟨go42, (x13_2 : Int).toNat * 2, none⟩) (Kd.R_mono HO_9.out (fun k_ hk => (⟨hk, fun e_ => hk.2.1 (by rw [e_]; rfl)⟩ : _ ∧ k_ ≠ go42))) (fun _ hk => hk.2) (.int .i64 t139)) (fun _ hk => hk.2) (.int .i64 t140)) (fun _ hk => ⟨hk.1.1, ⟨hk.1.2.1, hk.1.2.2⟩⟩)⟩
                have n1_ : Aside0 (Kd.R k34 34 ((w60.setCell ⟨go42, (x13_2 : Int).toNat * 2, none⟩ (.int .i64 t139)).setCell ⟨go42, (x13_2 : Int).toNat * 2 + 1, none⟩ (.int .i64 t140)) w.heap.size (fun k_ => some k_ ≠ (.slice (some ad138) t122.length co59 : Value).ownBlock ∧ some k_ ≠ (.slice (some ⟨go42, 0, none⟩) x11_2.length co42 : Value).ownBlock ∧ k_ ≠ gb137) (.slice (some ad132) t126.length co50) t126) := ⟨by (with_reducible repeat (first | apply Kd.R_alloc | apply Kd.R_drewN | apply Kd.R_drew)); exact Kd.R_mono (Kd.R_far (p := ⟨go42, (x13_2 : Int).toNat * 2 + 1, none⟩) (Kd.R_far (p := ⟨go42, (x13_2 : Int).toNat * 2, none⟩) (Kd.R_mono HO_10.out (fun k_ hk => (⟨hk, fun e_ => hk.2.1 (by rw [e_]; rfl)⟩ : _ ∧ k_ ≠ go42))) (fun _ hk => hk.2) (.int .i64 t139)) (fun _ hk => hk.2) (.int .i64 t140)) (fun _ hk => ⟨hk.1.1, ⟨hk.1.2.1, hk.1.2.2⟩⟩)⟩
                have n2_ : Aside0 (Kd.R k34 34 ((w60.setCell ⟨go42, (x13_2 : Int).toNat * 2, none⟩ (.int .i64 t139)).setCell ⟨go42, (x13_2 : Int).toNat * 2 + 1, none⟩ (.int .i64 t140)) w.heap.size (fun k_ => some k_ ≠ (.slice (some ad138) t122.length co59 : Value).ownBlock ∧ some k_ ≠ (.slice (some ad132) t126.length co50 : Value).ownBlock ∧ k_ ≠ gb137) (.slice (some ⟨go42, 0, none⟩) x11_2.length co42) y141) := ⟨(by (with_reducible repeat (first | apply Kd.R_alloc | apply Kd.R_drewN | apply Kd.R_drew)); exact HQ61.out)⟩
                have n3_ : Aside0 (((w60.setCell ⟨go42, (x13_2 : Int).toNat * 2, none⟩ (.int .i64 t139)).setCell ⟨go42, (x13_2 : Int).toNat * 2 + 1, none⟩ (.int .i64 t140)).heap[gb137]? = some (.cells #[.int .i64 t135, .int .i64 t136] 34 (0, 0))) := ⟨(by (with_reducible repeat (first | refine blk_drewN ?_ _ | refine blk_drew ?_ | refine blk_alloc ?_ _)); refine blk_far ?_ (by have h_ := Kd.R_away HO_11.out (fun _ hk => hk.2.2); intro e_; exact h_ (by rw [e_]; rfl)) _; (with_reducible repeat (first | refine blk_drewN ?_ _ | refine blk_drew ?_ | refine blk_alloc ?_ _)); refine blk_far ?_ (by have h_ := Kd.R_away HO_11.out (fun _ hk => hk.2.2); intro e_; exact h_ (by rw [e_]; rfl)) _; (with_reducible repeat (first | refine blk_drewN ?_ _ | refine blk_drew ?_ | refine blk_alloc ?_ _)); exact BK137.out)⟩
                have n4_ : Aside0 (Below w.heap.size w ((w60.setCell ⟨go42, (x13_2 : Int).toNat * 2, none⟩ (.int .i64 t139)).setCell ⟨go42, (x13_2 : Int).toNat * 2 + 1, none⟩ (.int .i64 t140))) := ⟨(by repeat (first | (with_reducible first | exact HB.out | apply below_alloc | apply pw_below_drewN | apply below_drew1 | refine below_set ?_ GB42.out | refine below_set ?_ GB42.out | refine below_set ?_ GE137.out) | exact HB.out))⟩
                (try clear HO_9)
                (try clear HO_10)
                (try clear HO_11)
                (try clear BK137)
                (try clear HB)
                generalize ((w60.setCell ⟨go42, (x13_2 : Int).toNat * 2, none⟩ (.int .i64 t139)).setCell ⟨go42, (x13_2 : Int).toNat * 2 + 1, none⟩ (.int .i64 t140)) = w62 at n0_ n1_ n2_ n3_ n4_ ⊢
                have HO_9 := n0_
                have HO_10 := n1_
                have HO_11 := n2_
                have BK137 := n3_
                have HB := n4_
                clear n0_ n1_ n2_ n3_ n4_
                have n0_ := am_ (Kd.R_drew HO_9.out)
                have n1_ := am_ (Kd.R_drew HO_10.out)
                have n2_ := am_ (Kd.R_drew HO_11.out)
                have n3_ := am_ (blk_drew BK137.out)
                have n4_ := am_ (below_drew1 HB.out)
                clear HO_9
                clear HO_10
                clear HO_11
                clear BK137
                clear HB
                have HO_9 := n0_
                have HO_10 := n1_
                have HO_11 := n2_
                have BK137 := n3_
                have HB := n4_
                clear n0_ n1_ n2_ n3_ n4_
                have p142 : 0 ≤ (x13_2 : Int) := of_decide_eq_true qz6_
                have q142 : x13_2 < (t122.length : Int) := of_decide_eq_true qz6_
                obtain ⟨ad142, e142, hx142_0, hx142_1⟩ := at_T34 (Kd.R_reads' HO_9.out).2.2 x13_2 p142 q142
                obtain rfl : ad138 = ad142 := (by injection e142)
                replace p142 := eq_true p142
                replace q142 := eq_true q142
                refine start_ (n := 13) (S := fun w' => w'.cell? ⟨gb137, 0, none⟩ = some (.int .i64 t135) ∧ w'.cell? ⟨gb137, 1, none⟩ = some (.int .i64 t136) ∧ w'.cell? (ad138.add ((x13_2).toNat * 2)) = some (.int .i64 ((rd_T34 t122 x13_2).f0)) ∧ w'.cell? ⟨(ad138.add ((x13_2).toNat * 2)).block, (ad138.add ((x13_2).toNat * 2)).off + 1, none⟩ = some (.int .i64 ((rd_T34 t122 x13_2).f1))) (ds := [12]) #[false, false, false, false, false, false, false, false, false, false, false, false, false] (by kernel_rfl) rfl rfl ⟨(blk_cell BK137.out 0).trans rfl, (blk_cell BK137.out 1).trans rfl, hx142_0, hx142_1⟩ (fun hHeld => ?_); refine with_tabW spec_l07Ntt.tab20 spec_l07Ntt.bits20 (fun HT_ HW_ => ?_)
                generalize w62.drew = w63 at HO_9 HO_10 HO_11 BK137 HB HQ61 hx142_0 hx142_1 hHeld ⊢
                refine pure_ (i := 0) (N := some 78) (v := ?_) (a' := ?_) #[true, false, false, false, false, false, false, false, false, false, false, false, false] rfl rfl (any_of HT_.out (by kernel_rfl)) (fun _ _ _ h => h) (Or.inl ⟨(by rfl), ?_⟩) ?_ ?_
                rotate_left
                ·
                 intro w'
                 go_simp
                 with_reducible rfl
                rotate_left
                ·
                 exact ap_
                refine pure_ (i := 1) (N := some 79) (v := ?_) (a' := ?_) #[true, true, false, false, false, false, false, false, false, false, false, false, false] rfl rfl (any_of HT_.out (by kernel_rfl)) (fun _ _ _ h => h) (Or.inl ⟨(by rfl), ?_⟩) ?_ ?_
                rotate_left
                ·
                 intro w'
                 go_simp
                 with_reducible rfl
                rotate_left
                ·
                 exact ap_
                refine pure_ (i := 2) (N := some 80) (v := ?_) (a' := ?_) #[true, true, true, false, false, false, false, false, false, false, false, false, false] rfl rfl (any_of HT_.out (by kernel_rfl)) (fun _ _ _ h => h) (Or.inl ⟨(by rfl), ?_⟩) ?_ ?_
                rotate_left
                ·
                 intro w'
                 go_simp
                 with_reducible rfl
                rotate_left
                ·
                 exact ap_
                refine pure_ (i := 3) (N := some 81) (v := ?_) (a' := ?_) #[true, true, true, true, false, false, false, false, false, false, false, false, false] rfl rfl (any_of HT_.out (by kernel_rfl)) (fun _ _ _ h => h) (Or.inl ⟨(by rfl), ?_⟩) ?_ ?_
                rotate_left
                ·
                 intro w'
                 go_simp
                 with_reducible rfl
                rotate_left
                ·
                 exact ap_
                refine pure_ (i := 4) (N := some 82) (v := ?_) (a' := ?_) #[true, true, true, true, true, false, false, false, false, false, false, false, false] rfl rfl (any_of HT_.out (by kernel_rfl)) (fun _ _ _ h => h) (Or.inl ⟨(by rfl), ?_⟩) ?_ ?_
                rotate_left
                ·
                 intro w'
                 go_simp
                 with_reducible rfl
                rotate_left
                ·
                 exact ap_
                refine pure_ (i := 5) (N := some 83) (v := ?_) (a' := ?_) #[true, true, true, true, true, true, false, false, false, false, false, false, false] rfl rfl (any_of HT_.out (by kernel_rfl)) (fun _ _ _ h => h) (Or.inl ⟨(by rfl), ?_⟩) ?_ ?_
                rotate_left
                ·
                 intro w'
                 go_simp
                 with_reducible rfl
                rotate_left
                ·
                 exact ap_
                refine pure_ (i := 6) (N := some 84) (v := ?_) (a' := ?_) #[true, true, true, true, true, true, true, false, false, false, false, false, false] rfl rfl (any_of HT_.out (by kernel_rfl)) (fun _ _ _ h => h) (Or.inl ⟨(by rfl), ?_⟩) ?_ ?_
                rotate_left
                ·
                 intro w'
                 go_simp
                 with_reducible rfl
                rotate_left
                ·
                 exact ap_
                refine pure_ (i := 7) (N := some 85) (v := ?_) (a' := ?_) #[true, true, true, true, true, true, true, true, false, false, false, false, false] rfl rfl (any_of HT_.out (by kernel_rfl)) (fun _ _ _ h => h) (Or.inl ⟨(by rfl), ?_⟩) ?_ ?_
                rotate_left
                ·
                 intro w'
                 go_simp
                 with_reducible rfl
                rotate_left
                ·
                 exact ap_
                refine take_ (i := 8) (N := some 86) (v := ?_) (a' := ?_) #[true, true, true, true, true, true, true, true, true, false, false, false, false] rfl rfl (take_ofW HT_.out HW_.out (by kernel_rfl)) (fun _ _ _ h => h) (Or.inl ⟨(by rfl), ?_⟩) hHeld ?_ ?_
                rotate_left
                ·
                 rintro w' ⟨s0, s1, s2, s3⟩
                 go_simp
                 with_reducible rfl
                rotate_left
                ·
                 exact ap_
                refine take_ (i := 9) (N := some 87) (v := ?_) (a' := ?_) #[true, true, true, true, true, true, true, true, true, true, false, false, false] rfl rfl (take_ofW HT_.out HW_.out (by kernel_rfl)) (fun _ _ _ h => h) (Or.inl ⟨(by rfl), ?_⟩) hHeld ?_ ?_
                rotate_left
                ·
                 rintro w' ⟨s0, s1, s2, s3⟩
                 go_simp
                 with_reducible rfl
                rotate_left
                ·
                 exact ap_
                refine one_ (i := 10) (N := some 88) #[true, true, true, true, true, true, true, true, true, true, true, false, false] rfl rfl (one_of HT_.out (by kernel_rfl)) (by decide) (fun K hK => ?_)
                refine goes_ Try.func138 (by kernel_rfl) rfl #[.agg #[.int .i64 ((rd_T34 t122 x13_2).f0), .int .i64 ((rd_T34 t122 x13_2).f1)], .agg #[.int .i64 t135, .int .i64 t136]] (by rfl) rfl rfl qz2_ ?_
                with_reducible refine (spec_l02Sub.calls ((rd_T34 t122 x13_2).f0) ((rd_T34 t122 x13_2).f1) t135 t136 t143 t144 _ A43.out).mono ?_
                rintro e w64 ⟨rfl, hb⟩
                have HS2_ := (hb.cell (World.block_lt_of_cell? _ _ (hHeld.2.2.1))).trans (hHeld.2.2.1)
                have HS3_ := (hb.cell (World.block_lt_of_cell? _ _ (hHeld.2.2.2))).trans (hHeld.2.2.2)
                refine ⟨_, rfl, ?_⟩
                have n0_ := am_ (Kd.R_below qz22_ hb)
                have n1_ := am_ (Kd.R_below qz23_ hb)
                have n2_ := am_ (Kd.R_below qz24_ hb)
                have n3_ := am_ (blk_below (g := gb137) (o := .cells #[.int .i64 t135, .int .i64 t136] 34 (0, 0)) qz26_ hb)
                have n4_ := am_ (below_step qz27_ hb)
                clear HO_9
                clear HO_10
                clear HO_11
                clear BK137
                clear HB
                have HO_9 := n0_
                have HO_10 := n1_
                have HO_11 := n2_
                have BK137 := n3_
                have HB := n4_
                clear n0_ n1_ n2_ n3_ n4_
                (try clear hb)
                (try clear hb2)
                (try clear hk)
                (try clear hi)
                have p47 : 0 ≤ ((ji44) : Int) := of_decide_eq_true qz6_
                have q47 : ((ji44) : Int) < ((x11_2.length : Int) : Int) := of_decide_eq_true qz6_
                obtain ⟨ce47, hcl47, hM47, hcc47, hfr47⟩ := Kd.R_elem HO_11.out z34 ((ji44) : Int) p47 q47
                obtain rfl := k34_openM hM47
                have hx47_0 : World.cell? _ ⟨go42, ((ji44) : Int).toNat * 2, none⟩ = some (.int .i64 ((rd_T34 y141 (ji44)).f0)) := hcc47 0 _ rfl
                have hx47_1 : World.cell? _ ⟨go42, ((ji44) : Int).toNat * 2 + 1, none⟩ = some (.int .i64 ((rd_T34 y141 (ji44)).f1)) := hcc47 1 _ rfl
                have hf47_0 : World.frozen? _ ⟨go42, ((ji44) : Int).toNat * 2, none⟩ = false := hfr47 0
                have hf47_1 : World.frozen? _ ⟨go42, ((ji44) : Int).toNat * 2 + 1, none⟩ = false := hfr47 1
                (try clear hcl47); (try clear hcc47); (try clear hfr47); (try clear hM47)
                replace p47 := eq_true p47
                replace q47 := eq_true q47
                obtain ⟨ce65, hcl65, hM65, hcc65, hfr65⟩ := Kd.R_elem HO_11.out z34 ((ji44) : Int) (of_decide_eq_true qz6_) (by have h_ : ((ji44) : Int) < ((x11_2.length : Int) : Int) := of_decide_eq_true qz6_; first | exact h_ | (have e_ := (Kd.R_reads' HO_11.out).1; omega) | simpa using h_)
                obtain rfl := k34_openM hM65
                have HP65 := (Kd.R_seg HO_11.out ((ji44) : Int) (of_decide_eq_true qz6_) (by have h_ : ((ji44) : Int) < ((x11_2.length : Int) : Int) := of_decide_eq_true qz6_; first | exact h_ | (have e_ := (Kd.R_reads' HO_11.out).1; omega) | simpa using h_) (seg := [.int .i64 t143, .int .i64 t144]) (j := 0) hcl65 hcc65 (show 2 ≤ 2 from by decide) (x' := (⟨t143, t144⟩ : S34)) (k34_mkM _ _ _ (⟨t143, t144⟩ : S34) ) (fun _ hk => hk)).1
                rw [← Ny145.out] at HP65
                have HQ65 := am_ HP65
                (try clear hcl65); (try clear hcc65); (try clear hfr65); (try clear hM65); (try clear HP65)
                refine hK.out _ _ ⟨(blk_cell BK137.out 0).trans rfl, (blk_cell BK137.out 1).trans rfl, HS2_, HS3_⟩ (fun hHeld => ?_)
                clear hK K
                refine norm_ (a' := ?_) ?_ ?_
                rotate_left
                ·
                 show Act.put _ (some 88) _ = _
                 exact ap_
                refine pure_ (i := 11) (N := some 89) (v := ?_) (a' := ?_) #[true, true, true, true, true, true, true, true, true, true, true, true, false] rfl rfl (any_of HT_.out (by kernel_rfl)) (fun _ _ _ h => h) (Or.inl ⟨(by rfl), ?_⟩) ?_ ?_
                rotate_left
                ·
                 intro w'
                 go_simp
                 with_reducible rfl
                rotate_left
                ·
                 exact ap_
                refine last_ (i := 12) (N := none) #[true, true, true, true, true, true, true, true, true, true, true, true, true] rfl rfl (one_of HT_.out (by kernel_rfl)) (by decide) (fun K hK => ?_)
                refine skip_ (w1 := ?_) (by rfl) rfl ?_ ?_
                rotate_left
                ·
                 go_simp
                 rfl
                refine hK.out _ _ ?_
                clear hK K
                refine done_ (done_of HT_.out (by kernel_rfl)) ?_
                try go_wp2_with (first | ((with_reducible refine gate_callee (f := 151) rfl ?_); refine goesL_ (some 92) rfl rfl Try.func151 (by kernel_rfl) rfl #[.int .i64 x12_2, .int .i64 a1] rfl qz2_ ?_; (with_reducible refine (spec_l01Mul.calls x12_2 a1 t146 _ A48.out).mono ?_); rintro e w' ⟨rfl, ⟨nd, rfl⟩⟩; refine ⟨_, rfl, ?_⟩))
                go_roundg k2
                case measure => have := HK1.out; have := HK2.out; omega
                case rel => exact ⟨(y145), (t146), (wrap64 (x13_2 + 1)), qz0_, qz0_, H', ⟨(by have := HK1.out; have := HK2.out; omega)⟩, ⟨by (with_reducible repeat (first | apply Kd.R_alloc | apply Kd.R_drewN | apply Kd.R_drew)); exact Kd.R_mono (Kd.R_far (p := ⟨go42, ((ji44) : Int).toNat * 2 + 1, none⟩) (Kd.R_far (p := ⟨go42, ((ji44) : Int).toNat * 2, none⟩) (Kd.R_mono HO_9.out (fun k_ hk => (⟨hk, fun e_ => hk.2.1 (by rw [e_]; rfl)⟩ : _ ∧ k_ ≠ go42))) (fun _ hk => hk.2) (.int .i64 t143)) (fun _ hk => hk.2) (.int .i64 t144)) (fun _ hk => ⟨hk.1.1, hk.1.2.1⟩)⟩, ⟨by (with_reducible repeat (first | apply Kd.R_alloc | apply Kd.R_drewN | apply Kd.R_drew)); exact Kd.R_mono (Kd.R_far (p := ⟨go42, ((ji44) : Int).toNat * 2 + 1, none⟩) (Kd.R_far (p := ⟨go42, ((ji44) : Int).toNat * 2, none⟩) (Kd.R_mono HO_10.out (fun k_ hk => (⟨hk, fun e_ => hk.2.1 (by rw [e_]; rfl)⟩ : _ ∧ k_ ≠ go42))) (fun _ hk => hk.2) (.int .i64 t143)) (fun _ hk => hk.2) (.int .i64 t144)) (fun _ hk => ⟨hk.1.1, hk.1.2.1⟩)⟩, ⟨by (with_reducible repeat (first | apply Kd.R_alloc | apply Kd.R_drewN | apply Kd.R_drew)); exact Kd.R_mono HQ65.out (fun _ hk => ⟨hk.1, hk.2.1⟩)⟩, ⟨(by repeat (first | (with_reducible first | exact HB.out | apply below_alloc | apply pw_below_drewN | apply below_drew1 | refine below_set ?_ GB42.out | refine below_set ?_ GB42.out | refine below_set ?_ GE137.out) | exact HB.out))⟩⟩
               ·
                rw [if_neg c46] at H
                exact absurd H (by simp)
              ·
               rw [if_neg c45] at H
               exact absurd H (by simp)
             ·
              rw [if_neg c41] at H
              exact absurd H (by simp)
            ·
             rw [if_neg c39] at H
             exact absurd H (by simp)
           ·
            rw [if_neg c36] at H
            exact absurd H (by simp)
          ·
           rw [if_neg c35] at H
           exact absurd H (by simp)
         ·
          rw [if_neg c34] at H
          have c34b0 : decide (x13_2 < (wrap64 ((l0.length : Int) / 2))) = false := decide_eq_false c34
          clear c34
          obtain rfl := Option.some.inj H
          go_wp2
          go_ret
          exact ⟨_, qz4_, (by (with_reducible repeat (first | apply Kd.R_alloc | apply Kd.R_drewN | apply Kd.R_drew)); exact Kd.R_mono HO_11.out (fun _ hk => trivial)), qz3_⟩
      ·
       rw [if_neg c27] at H
       exact absurd H (by simp)
     ·
      rw [if_neg c26] at H
      exact absurd H (by simp)

def spec_l01Pow.l0 : Nat → Int → Int → Int → Option (Int)
 | 0, _, _, _ => none
 | k + 1, x0, x1, x5 => if x1 > 0 then (if (Int.tmod x1 2) = 1 then ((spec_l01Mul.f x5 x0).bind fun t101 => ((spec_l01Mul.f x0 x0).bind fun t102 => (spec_l01Pow.l0 k t102 (wrap64 (Int.tdiv x1 2)) t101))) else ((spec_l01Mul.f x0 x0).bind fun t103 => (spec_l01Pow.l0 k t103 (wrap64 (Int.tdiv x1 2)) x5))) else (some x5)
def spec_l01Pow.f (k : Nat) (a0 : Int) (a1 : Int) : Option (Int) := spec_l01Pow.l0 k a0 a1 1
theorem spec_l01Pow.mono_l : ∀ k, (∀ y0 y1 y2, LeO (spec_l01Pow.l0 k y0 y1 y2) (spec_l01Pow.l0 (k + 1) y0 y1 y2))
 | 0 => fun _ _ _ r h => by simp [spec_l01Pow.l0] at h
 | k + 1 => by
  have ih0 := spec_l01Pow.mono_l k
  ·
   intro y0 y1 y2
   unfold spec_l01Pow.l0
   repeat' first
   | (with_reducible exact ih0 _ _ _)
   | (with_reducible exact LeO.refl _)
   | (with_reducible exact LeO.none _)
   | (with_reducible refine LeO.ite ?_ ?_)
   | (with_reducible refine LeO.bind ?_ (fun _ => ?_))
   | exact ih0 _ _ _
   | exact LeO.none _
   | refine LeO.ite ?_ ?_
   | refine LeO.bind ?_ (fun _ => ?_)
theorem spec_l01Pow.mono : ∀ a0 a1 k, LeO (spec_l01Pow.f k a0 a1) (spec_l01Pow.f (k + 1) a0 a1) := by
 intro a0 a1 k
 have ih0 := spec_l01Pow.mono_l k
 unfold spec_l01Pow.f
 repeat' first
   | (with_reducible exact ih0 _ _ _)
   | (with_reducible exact LeO.refl _)
   | (with_reducible exact LeO.none _)
   | (with_reducible refine LeO.ite ?_ ?_)
   | (with_reducible refine LeO.bind ?_ (fun _ => ?_))
   | exact ih0 _ _ _
   | exact LeO.none _
   | refine LeO.ite ?_ ?_
   | refine LeO.bind ?_ (fun _ => ?_)
set_option maxHeartbeats 8000000 in
set_option maxRecDepth 100000 in
theorem spec_l01Pow.calls (k : Nat) (a0 : Int) (a1 : Int) (r : Int) (w : World) (h : spec_l01Pow.f k a0 a1 = some r) :
  Calls Try.prog 165 #[.int .i64 a0, .int .i64 a1] w fun e w' => e = .returned (.int .i64 r) ∧ Drawn0 w w' := by
 have H : (spec_l01Pow.l0 k a0 a1 1) = some r := h
 clear h
 have H' := am_ H
 clear H
 go_enter Try.func165, Try.ntmps165
 go_wp2
 go_loopg [0, 1, 5] k (fun kq v0 v1 v5 w' => ∃ (x0_1 : Int) (x1_1 : Int) (x5_1 : Int), v0 = .int .i64 x0_1 ∧ v1 = .int .i64 x1_1 ∧ v5 = .int .i64 x5_1 ∧ Aside0 (spec_l01Pow.l0 kq x0_1 x1_1 x5_1 = some r) ∧ Aside0 (kq ≤ k) ∧ Drawn0 w w')
 case atStart => exact ⟨(a0), (a1), (1), qz0_, qz0_, qz0_, H', ⟨Nat.le_refl _⟩, by repeat (first | exact Drawn0.refl _ | apply Drawn0.step)⟩
 case round =>
  clear H'
  try clear c1
  try clear p2
  obtain ⟨x0_1, x1_1, x5_1, rfl, rfl, rfl, HA, HK1, ⟨m1, rfl⟩⟩ := hrel
  cases gk with
  | zero => exact absurd HA.out (by simp [spec_l01Pow.l0])
  | succ k1 =>
   have H := HA.out
   clear HA
   simp only [spec_l01Pow.l0] at H
   by_cases c3 : x1_1 > 0
   ·
    rw [if_pos c3] at H
    have c3b0 : decide (0 < x1_1) = true := decide_eq_true c3
    clear c3
    by_cases c4 : (Int.tmod x1_1 2) = 1
    ·
     rw [if_pos c4] at H
     have c4b0 : ((Int.tmod x1_1 2) == 1) = true := beq_iff_eq.mpr c4
     have c4b1 : ((Int.tmod x1_1 2) != 1) = false := bne_eq_false_iff_eq.mpr c4
     clear c4
     replace H := Option.bind_eq_some_iff.mp H
     obtain ⟨t101, A50, H⟩ := H
     replace H : ((spec_l01Mul.f x0_1 x0_1).bind fun t102 => (spec_l01Pow.l0 k1 t102 (wrap64 (Int.tdiv x1_1 2)) t101)) = some r := H
     have A5 := am_ A50
     clear A50
     replace H := Option.bind_eq_some_iff.mp H
     obtain ⟨t102, A60, H⟩ := H
     replace H : (spec_l01Pow.l0 k1 t102 (wrap64 (Int.tdiv x1_1 2)) t101) = some r := H
     have A6 := am_ A60
     clear A60
     have H' := am_ H
     clear H
     go_wp2_with (first | ((with_reducible refine gate_callee (f := 151) rfl ?_); refine goesL_ (some 13) rfl rfl Try.func151 (by kernel_rfl) rfl #[.int .i64 x5_1, .int .i64 x0_1] rfl qz2_ ?_; (with_reducible refine (spec_l01Mul.calls x5_1 x0_1 t101 _ A5.out).mono ?_); rintro e w' ⟨rfl, ⟨nd, rfl⟩⟩; refine ⟨_, rfl, ?_⟩) | ((with_reducible refine gate_callee (f := 151) rfl ?_); refine goesL_ (some 16) rfl rfl Try.func151 (by kernel_rfl) rfl #[.int .i64 x0_1, .int .i64 x0_1] rfl qz2_ ?_; (with_reducible refine (spec_l01Mul.calls x0_1 x0_1 t102 _ A6.out).mono ?_); rintro e w' ⟨rfl, ⟨nd, rfl⟩⟩; refine ⟨_, rfl, ?_⟩))
     go_roundg k1
     case measure => have := HK1.out; omega
     case rel => exact ⟨(t102), (wrap64 (Int.tdiv x1_1 2)), (t101), qz0_, qz0_, qz0_, H', ⟨(by have := HK1.out; omega)⟩, by repeat (first | exact Drawn0.refl _ | apply Drawn0.step)⟩
    ·
     rw [if_neg c4] at H
     have c4b0 : ((Int.tmod x1_1 2) == 1) = false := beq_eq_false_iff_ne.mpr c4
     have c4b1 : ((Int.tmod x1_1 2) != 1) = true := bne_iff_ne.mpr c4
     replace H := Option.bind_eq_some_iff.mp H
     obtain ⟨t103, A70, H⟩ := H
     replace H : (spec_l01Pow.l0 k1 t103 (wrap64 (Int.tdiv x1_1 2)) x5_1) = some r := H
     have A7 := am_ A70
     clear A70
     have H' := am_ H
     clear H
     go_wp2_with (first | ((with_reducible refine gate_callee (f := 151) rfl ?_); refine goesL_ (some 16) rfl rfl Try.func151 (by kernel_rfl) rfl #[.int .i64 x0_1, .int .i64 x0_1] rfl qz2_ ?_; (with_reducible refine (spec_l01Mul.calls x0_1 x0_1 t103 _ A7.out).mono ?_); rintro e w' ⟨rfl, ⟨nd, rfl⟩⟩; refine ⟨_, rfl, ?_⟩))
     go_roundg k1
     case measure => have := HK1.out; omega
     case rel => exact ⟨(t103), (wrap64 (Int.tdiv x1_1 2)), (x5_1), qz0_, qz0_, qz0_, H', ⟨(by have := HK1.out; omega)⟩, by repeat (first | exact Drawn0.refl _ | apply Drawn0.step)⟩
   ·
    rw [if_neg c3] at H
    have c3b0 : decide (0 < x1_1) = false := decide_eq_false c3
    clear c3
    obtain rfl := Option.some.inj H
    go_wp2
    go_ret
    exact ⟨qz0_, qz1_⟩

def spec_l01Root.f (k : Nat) (a0 : Int) : Option (Int) := if 0 ≤ (IntKind.u64.wrap (wrap64 (24 - a0))) then ((spec_l01Pow.f k 3 (shl .i64 127 (IntKind.u64.wrap (wrap64 (24 - a0))))).bind fun t101 => (some t101)) else (none)
theorem spec_l01Root.mono : ∀ a0 k, LeO (spec_l01Root.f k a0) (spec_l01Root.f (k + 1) a0) := by
 intro a0 k
 unfold spec_l01Root.f
 repeat' first
   | (with_reducible exact spec_l01Pow.mono _ _ _)
   | (with_reducible exact LeO.refl _)
   | (with_reducible exact LeO.none _)
   | (with_reducible refine LeO.ite ?_ ?_)
   | (with_reducible refine LeO.bind ?_ (fun _ => ?_))
   | exact spec_l01Pow.mono _ _ _
   | exact LeO.none _
   | refine LeO.ite ?_ ?_
   | refine LeO.bind ?_ (fun _ => ?_)
set_option maxHeartbeats 8000000 in
set_option maxRecDepth 100000 in
theorem spec_l01Root.calls (k : Nat) (a0 : Int) (r : Int) (w : World) (h : spec_l01Root.f k a0 = some r) :
  Calls Try.prog 136 #[.int .i64 a0] w fun e w' => e = .returned (.int .i64 r) ∧ Drawn0 w w' := by
 have H : (if 0 ≤ (IntKind.u64.wrap (wrap64 (24 - a0))) then ((spec_l01Pow.f k 3 (shl .i64 127 (IntKind.u64.wrap (wrap64 (24 - a0))))).bind fun t101 => (some t101)) else (none)) = some r := h
 clear h
 obtain ⟨ji2, hji2⟩ : ∃ j_ : Int, (IntKind.u64.wrap (wrap64 (24 - a0))) = j_ := ⟨_, rfl⟩
 replace H : (if 0 ≤ (ji2) then ((spec_l01Pow.f k 3 (shl .i64 127 (ji2))).bind fun t101 => (some t101)) else (none)) = some r := by first | (rw [hji2] at H; exact H) | (simp only [hji2] at H ⊢; exact H)
 by_cases c3 : 0 ≤ (ji2)
 ·
  rw [if_pos c3] at H
  have c3b0 := eq_true c3
  have c3b1 : decide (0 ≤ (ji2)) = true := decide_eq_true c3
  clear c3
  obtain ⟨ji4, hji4⟩ : ∃ j_ : Int, (shl .i64 127 (ji2)) = j_ := ⟨_, rfl⟩
  replace H : ((spec_l01Pow.f k 3 (ji4)).bind fun t101 => (some t101)) = some r := by first | (rw [hji4] at H; exact H) | (simp only [hji4] at H ⊢; exact H)
  have hji4_ : (IntKind.i64.wrap (127 * 2 ^ min (ji2).toNat 64)) = ji4 := hji4
  have hji4z : (ji2) ≤ 64 → (IntKind.i64.wrap (127 * 2 ^ (ji2).toNat)) = ji4 := shl_small hji4
  have hji4y : (wrap64 (127 * 2 ^ min (ji2).toNat 64)) = ji4 := (i64_w _).symm.trans hji4_
  have hji4x : (ji2) ≤ 64 → (wrap64 (127 * 2 ^ (ji2).toNat)) = ji4 := fun h_ => (i64_w _).symm.trans (hji4z h_)
  replace H := Option.bind_eq_some_iff.mp H
  obtain ⟨t101, A50, H⟩ := H
  replace H : (some t101) = some r := H
  have A5 := am_ A50
  clear A50
  obtain rfl := Option.some.inj H
  go_enter Try.func136, Try.ntmps136
  go_wp2_with (first | ((with_reducible refine gate_callee (f := 165) rfl ?_); refine goesL_ (some 7) rfl rfl Try.func165 (by kernel_rfl) rfl #[.int .i64 3, .int .i64 ji4] rfl (by (try simp only [List.map_toArray, List.map_cons, List.map_nil]); first | done | (simp only [hji4]; rfl) | rfl | (simp only [List.length_drop, List.length_take]; rfl)) ?_; (with_reducible refine (spec_l01Pow.calls k 3 ji4 t101 _ A5.out).mono ?_); rintro e w' ⟨rfl, ⟨nd, rfl⟩⟩; refine ⟨_, rfl, ?_⟩))
  go_ret
  exact ⟨(by first | rfl | (simp; done) | (simp only [← hji2, ← hji4] <;> (first | rfl | simp)) | (simp [*]; done)), qz1_⟩
 ·
  rw [if_neg c3] at H
  exact absurd H (by simp)

end Go.Proofs.Ytgookagndlfehaa.PT
end
section
namespace Go.Proofs.Ytgookagndlfehaa.PT
open Go.RowKit Go.Proofs.YtgookagndlfehaaW.PrintWords Go.Proofs.YtgookagndlfehaaW.PrintLast Go.Proofs.YtgookagndlfehaaW.PrintMore
attribute [local go_sem] max2_int min2_int max_two min_two max_three min_three max_four min_four   -- for this text's walks alone
set_option linter.unusedVariables false
set_option linter.unusedSimpArgs false
def spec_l06Vars.l0 : Nat → Int → Int → Option (Int)
 | 0, _, _ => none
 | k + 1, x0, x3 => if 0 ≤ (IntKind.u64.wrap (x3)) then (if (shl .i64 1 (IntKind.u64.wrap (x3))) < x0 then (spec_l06Vars.l0 k x0 (wrap64 (x3 + 1))) else (some x3)) else (none)
def spec_l06Vars.f (k : Nat) (a0 : Int) : Option (Int) := spec_l06Vars.l0 k a0 0
theorem spec_l06Vars.mono_l : ∀ k, (∀ y0 y1, LeO (spec_l06Vars.l0 k y0 y1) (spec_l06Vars.l0 (k + 1) y0 y1))
 | 0 => fun _ _ r h => by simp [spec_l06Vars.l0] at h
 | k + 1 => by
  have ih0 := spec_l06Vars.mono_l k
  ·
   intro y0 y1
   unfold spec_l06Vars.l0
   repeat' first
   | (with_reducible exact ih0 _ _)
   | (with_reducible exact LeO.refl _)
   | (with_reducible exact LeO.none _)
   | (with_reducible refine LeO.ite ?_ ?_)
   | (with_reducible refine LeO.bind ?_ (fun _ => ?_))
   | exact ih0 _ _
   | exact LeO.none _
   | refine LeO.ite ?_ ?_
   | refine LeO.bind ?_ (fun _ => ?_)
theorem spec_l06Vars.mono : ∀ a0 k, LeO (spec_l06Vars.f k a0) (spec_l06Vars.f (k + 1) a0) := by
 intro a0 k
 have ih0 := spec_l06Vars.mono_l k
 unfold spec_l06Vars.f
 repeat' first
   | (with_reducible exact ih0 _ _)
   | (with_reducible exact LeO.refl _)
   | (with_reducible exact LeO.none _)
   | (with_reducible refine LeO.ite ?_ ?_)
   | (with_reducible refine LeO.bind ?_ (fun _ => ?_))
   | exact ih0 _ _
   | exact LeO.none _
   | refine LeO.ite ?_ ?_
   | refine LeO.bind ?_ (fun _ => ?_)
set_option maxHeartbeats 8000000 in
set_option maxRecDepth 100000 in
theorem spec_l06Vars.calls (k : Nat) (a0 : Int) (r : Int) (w : World) (h : spec_l06Vars.f k a0 = some r) :
  Calls Try.prog 137 #[.int .i64 a0] w fun e w' => e = .returned (.int .i64 r) ∧ Drawn0 w w' := by
 have H : (spec_l06Vars.l0 k a0 0) = some r := h
 clear h
 have H' := am_ H
 clear H
 go_enter Try.func137, Try.ntmps137
 go_wp2
 go_loopg [3] k (fun kq v3 w' => ∃ (x3_1 : Int), v3 = .int .i64 x3_1 ∧ Aside0 (spec_l06Vars.l0 kq a0 x3_1 = some r) ∧ Aside0 (kq ≤ k) ∧ Drawn0 w w')
 case atStart => exact ⟨(0), qz0_, H', ⟨Nat.le_refl _⟩, by repeat (first | exact Drawn0.refl _ | apply Drawn0.step)⟩
 case round =>
  clear H'
  try clear c1
  obtain ⟨x3_1, rfl, HA, HK1, ⟨m1, rfl⟩⟩ := hrel
  cases gk with
  | zero => exact absurd HA.out (by simp [spec_l06Vars.l0])
  | succ k1 =>
   have H := HA.out
   clear HA
   simp only [spec_l06Vars.l0] at H
   obtain ⟨ji2, hji2⟩ : ∃ j_ : Int, (IntKind.u64.wrap (x3_1)) = j_ := ⟨_, rfl⟩
   replace H : (if 0 ≤ (ji2) then (if (shl .i64 1 (ji2)) < a0 then (spec_l06Vars.l0 k1 a0 (wrap64 (x3_1 + 1))) else (some x3_1)) else (none)) = some r := by first | (rw [hji2] at H; exact H) | (simp only [hji2] at H ⊢; exact H)
   by_cases c3 : 0 ≤ (ji2)
   ·
    rw [if_pos c3] at H
    have c3b0 := eq_true c3
    have c3b1 : decide (0 ≤ (ji2)) = true := decide_eq_true c3
    clear c3
    obtain ⟨ji4, hji4⟩ : ∃ j_ : Int, (shl .i64 1 (ji2)) = j_ := ⟨_, rfl⟩
    replace H : (if (ji4) < a0 then (spec_l06Vars.l0 k1 a0 (wrap64 (x3_1 + 1))) else (some x3_1)) = some r := by first | (rw [hji4] at H; exact H) | (simp only [hji4] at H ⊢; exact H)
    have hji4_ : (IntKind.i64.wrap (1 * 2 ^ min (ji2).toNat 64)) = ji4 := hji4
    have hji4z : (ji2) ≤ 64 → (IntKind.i64.wrap (1 * 2 ^ (ji2).toNat)) = ji4 := shl_small hji4
    have hji4u : (IntKind.i64.wrap (2 ^ min (ji2).toNat 64)) = ji4 := by have h_ := hji4_; rw [Int.one_mul] at h_; exact h_
    have hji4v : (ji2) ≤ 64 → (IntKind.i64.wrap (2 ^ (ji2).toNat)) = ji4 := fun hle_ => by have h_ := hji4z hle_; rw [Int.one_mul] at h_; exact h_
    have hji4y : (wrap64 (1 * 2 ^ min (ji2).toNat 64)) = ji4 := (i64_w _).symm.trans hji4_
    have hji4x : (ji2) ≤ 64 → (wrap64 (1 * 2 ^ (ji2).toNat)) = ji4 := fun h_ => (i64_w _).symm.trans (hji4z h_)
    by_cases c5 : (ji4) < a0
    ·
     rw [if_pos c5] at H
     have c5b0 : decide ((ji4) < a0) = true := decide_eq_true c5
     clear c5
     have H' := am_ H
     clear H
     go_wp2
     go_roundg k1
     case measure => have := HK1.out; omega
     case rel => exact ⟨(wrap64 (x3_1 + 1)), qz0_, H', ⟨(by have := HK1.out; omega)⟩, by repeat (first | exact Drawn0.refl _ | apply Drawn0.step)⟩
    ·
     rw [if_neg c5] at H
     have c5b0 : decide ((ji4) < a0) = false := decide_eq_false c5
     clear c5
     obtain rfl := Option.some.inj H
     go_wp2
     go_ret
     exact ⟨(by first | rfl | (simp; done) | (simp only [← hji2, ← hji4] <;> (first | rfl | simp)) | (simp [*]; done)), qz1_⟩
   ·
    rw [if_neg c3] at H
    exact absurd H (by simp)

def spec_l07Encode.f (k : Nat) (l0 : List (S34)) (a1 : Int) : Option ((List (S34))) := if 0 ≤ (IntKind.u64.wrap (a1)) then ((some (([] : List (S34)) : List (S34))).bind fun y101 => (if y101.length + l0.length < 8796093022208 then ((some (y101 ++ l0 : List (S34))).bind fun y104 => (if 0 ≤ (wrap64 ((shl .i64 (l0.length : Int) (IntKind.u64.wrap (a1))) - (l0.length : Int))) then (if y104.length + (wrap64 ((shl .i64 (l0.length : Int) (IntKind.u64.wrap (a1))) - (l0.length : Int)) : Int).toNat < 8796093022208 then ((spec_l06Vars.f k (shl .i64 (l0.length : Int) (IntKind.u64.wrap (a1)))).bind fun t110 => ((spec_l01Root.f k t110).bind fun t111 => ((spec_l07Ntt.f k (y104 ++ List.replicate (wrap64 ((shl .i64 (l0.length : Int) (IntKind.u64.wrap (a1))) - (l0.length : Int)) : Int).toNat z34) t111).bind fun t112 => (some t112)))) else (none)) else (none))) else (none))) else (none)
theorem spec_l07Encode.mono : ∀ a0 a1 k, LeO (spec_l07Encode.f k a0 a1) (spec_l07Encode.f (k + 1) a0 a1) := by
 intro a0 a1 k
 unfold spec_l07Encode.f
 repeat' first
   | (with_reducible exact spec_l01Root.mono _ _)
   | (with_reducible exact spec_l06Vars.mono _ _)
   | (with_reducible exact spec_l07Ntt.mono _ _ _)
   | (with_reducible exact LeO.refl _)
   | (with_reducible exact LeO.none _)
   | (with_reducible refine LeO.ite ?_ ?_)
   | (with_reducible refine LeO.bind ?_ (fun _ => ?_))
   | exact spec_l01Root.mono _ _
   | exact spec_l06Vars.mono _ _
   | exact spec_l07Ntt.mono _ _ _
   | exact LeO.none _
   | refine LeO.ite ?_ ?_
   | refine LeO.bind ?_ (fun _ => ?_)
set_option maxHeartbeats 8000000 in
set_option maxRecDepth 100000 in
theorem spec_l07Encode.calls (k : Nat) (A0 : Option Addr) (c0 : Nat) (l0 : List (S34)) (a1 : Int) (r : List (S34)) (w : World) (hr0 : Kd.C k34 w A0 l0.length l0) (hc0 : l0.length ≤ c0) (h : spec_l07Encode.f k l0 a1 = some r) :
  Calls Try.prog 106 #[.slice A0 l0.length c0, .int .i64 a1] w fun e w' => ∃ v0_ : Value, e = .returned (v0_) ∧ Kd.R k34 34 w' w.heap.size (fun _ => True) v0_ r ∧ Below w.heap.size w w' := by
 have HR0 := am_ hr0
 have HC0 := am_ hc0
 clear hr0 hc0
 have HB := am_ (Below.refl w.heap.size w)
 have H : (if 0 ≤ (IntKind.u64.wrap (a1)) then ((some (([] : List (S34)) : List (S34))).bind fun y101 => (if y101.length + l0.length < 8796093022208 then ((some (y101 ++ l0 : List (S34))).bind fun y104 => (if 0 ≤ (wrap64 ((shl .i64 (l0.length : Int) (IntKind.u64.wrap (a1))) - (l0.length : Int))) then (if y104.length + (wrap64 ((shl .i64 (l0.length : Int) (IntKind.u64.wrap (a1))) - (l0.length : Int)) : Int).toNat < 8796093022208 then ((spec_l06Vars.f k (shl .i64 (l0.length : Int) (IntKind.u64.wrap (a1)))).bind fun t110 => ((spec_l01Root.f k t110).bind fun t111 => ((spec_l07Ntt.f k (y104 ++ List.replicate (wrap64 ((shl .i64 (l0.length : Int) (IntKind.u64.wrap (a1))) - (l0.length : Int)) : Int).toNat z34) t111).bind fun t112 => (some t112)))) else (none)) else (none))) else (none))) else (none)) = some r := h
 clear h
 obtain ⟨ji3, hji3⟩ : ∃ j_ : Int, (IntKind.u64.wrap (a1)) = j_ := ⟨_, rfl⟩
 replace H : (if 0 ≤ (ji3) then ((some (([] : List (S34)) : List (S34))).bind fun y101 => (if y101.length + l0.length < 8796093022208 then ((some (y101 ++ l0 : List (S34))).bind fun y104 => (if 0 ≤ (wrap64 ((shl .i64 (l0.length : Int) (ji3)) - (l0.length : Int))) then (if y104.length + (wrap64 ((shl .i64 (l0.length : Int) (ji3)) - (l0.length : Int)) : Int).toNat < 8796093022208 then ((spec_l06Vars.f k (shl .i64 (l0.length : Int) (ji3))).bind fun t110 => ((spec_l01Root.f k t110).bind fun t111 => ((spec_l07Ntt.f k (y104 ++ List.replicate (wrap64 ((shl .i64 (l0.length : Int) (ji3)) - (l0.length : Int)) : Int).toNat z34) t111).bind fun t112 => (some t112)))) else (none)) else (none))) else (none))) else (none)) = some r := by first | (rw [hji3] at H; exact H) | (simp only [hji3] at H ⊢; exact H)
 by_cases c4 : 0 ≤ (ji3)
 ·
  rw [if_pos c4] at H
  have c4b0 := eq_true c4
  have c4b1 : decide (0 ≤ (ji3)) = true := decide_eq_true c4
  clear c4
  obtain ⟨ji5, hji5⟩ : ∃ j_ : Int, (shl .i64 (l0.length : Int) (ji3)) = j_ := ⟨_, rfl⟩
  replace H : ((some (([] : List (S34)) : List (S34))).bind fun y101 => (if y101.length + l0.length < 8796093022208 then ((some (y101 ++ l0 : List (S34))).bind fun y104 => (if 0 ≤ (wrap64 ((ji5) - (l0.length : Int))) then (if y104.length + (wrap64 ((ji5) - (l0.length : Int)) : Int).toNat < 8796093022208 then ((spec_l06Vars.f k (ji5)).bind fun t110 => ((spec_l01Root.f k t110).bind fun t111 => ((spec_l07Ntt.f k (y104 ++ List.replicate (wrap64 ((ji5) - (l0.length : Int)) : Int).toNat z34) t111).bind fun t112 => (some t112)))) else (none)) else (none))) else (none))) = some r := by first | (rw [hji5] at H; exact H) | (simp only [hji5] at H ⊢; exact H)
  have hji5_ : (IntKind.i64.wrap ((l0.length : Int) * 2 ^ min (ji3).toNat 64)) = ji5 := hji5
  have hji5z : (ji3) ≤ 64 → (IntKind.i64.wrap ((l0.length : Int) * 2 ^ (ji3).toNat)) = ji5 := shl_small hji5
  have hji5y : (wrap64 ((l0.length : Int) * 2 ^ min (ji3).toNat 64)) = ji5 := (i64_w _).symm.trans hji5_
  have hji5x : (ji3) ≤ 64 → (wrap64 ((l0.length : Int) * 2 ^ (ji3).toNat)) = ji5 := fun h_ => (i64_w _).symm.trans (hji5z h_)
  obtain ⟨y101, hy101⟩ : ∃ y_ : List (S34), y_ = (([] : List (S34))) := ⟨_, rfl⟩
  replace H : (if y101.length + l0.length < 8796093022208 then ((some (y101 ++ l0 : List (S34))).bind fun y104 => (if 0 ≤ (wrap64 ((ji5) - (l0.length : Int))) then (if y104.length + (wrap64 ((ji5) - (l0.length : Int)) : Int).toNat < 8796093022208 then ((spec_l06Vars.f k (ji5)).bind fun t110 => ((spec_l01Root.f k t110).bind fun t111 => ((spec_l07Ntt.f k (y104 ++ List.replicate (wrap64 ((ji5) - (l0.length : Int)) : Int).toNat z34) t111).bind fun t112 => (some t112)))) else (none)) else (none))) else (none)) = some r := by first | (rw [hy101]; with_reducible exact H) | (have H2_ := (Option.bind_some _ _).symm.trans H; rw [hy101]; with_reducible exact H2_) | (have H2_ := (Option.bind_some _ _).symm.trans H; with_reducible exact H2_) | with_reducible exact H | (rw [hy101]; exact H) | exact H
  have Ny101 := am_ hy101
  clear hy101
  by_cases c6 : y101.length + l0.length < 8796093022208
  ·
   rw [if_pos c6] at H
   have LMc6 := am_ c6
   clear c6
   obtain ⟨y104, hy104⟩ : ∃ y_ : List (S34), y_ = (y101 ++ l0) := ⟨_, rfl⟩
   replace H : (if 0 ≤ (wrap64 ((ji5) - (l0.length : Int))) then (if y104.length + (wrap64 ((ji5) - (l0.length : Int)) : Int).toNat < 8796093022208 then ((spec_l06Vars.f k (ji5)).bind fun t110 => ((spec_l01Root.f k t110).bind fun t111 => ((spec_l07Ntt.f k (y104 ++ List.replicate (wrap64 ((ji5) - (l0.length : Int)) : Int).toNat z34) t111).bind fun t112 => (some t112)))) else (none)) else (none)) = some r := by first | (rw [hy104]; with_reducible exact H) | (have H2_ := (Option.bind_some _ _).symm.trans H; rw [hy104]; with_reducible exact H2_) | (have H2_ := (Option.bind_some _ _).symm.trans H; with_reducible exact H2_) | with_reducible exact H | (rw [hy104]; exact H) | exact H
   have Ny104 := am_ hy104
   clear hy104
   obtain ⟨ji7, hji7⟩ : ∃ j_ : Int, (wrap64 ((ji5) - (l0.length : Int))) = j_ := ⟨_, rfl⟩
   replace H : (if 0 ≤ (ji7) then (if y104.length + (ji7 : Int).toNat < 8796093022208 then ((spec_l06Vars.f k (ji5)).bind fun t110 => ((spec_l01Root.f k t110).bind fun t111 => ((spec_l07Ntt.f k (y104 ++ List.replicate (ji7 : Int).toNat z34) t111).bind fun t112 => (some t112)))) else (none)) else (none)) = some r := by first | (rw [hji7] at H; exact H) | (simp only [hji7] at H ⊢; exact H)
   have hji7w : (IntKind.i64.wrap ((ji5) - (l0.length : Int))) = ji7 := (i64_w _).trans hji7
   by_cases c8 : 0 ≤ (ji7)
   ·
    rw [if_pos c8] at H
    have c8b0 := eq_true c8
    have c8b1 : decide (0 ≤ (ji7)) = true := decide_eq_true c8
    clear c8
    by_cases c9 : y104.length + (ji7 : Int).toNat < 8796093022208
    ·
     rw [if_pos c9] at H
     have LMc9 := am_ c9
     clear c9
     obtain ⟨y107, hy107⟩ : ∃ y_ : List (S34), y_ = (y104 ++ List.replicate (ji7 : Int).toNat z34) := ⟨_, rfl⟩
     replace H : ((spec_l06Vars.f k (ji5)).bind fun t110 => ((spec_l01Root.f k t110).bind fun t111 => ((spec_l07Ntt.f k y107 t111).bind fun t112 => (some t112)))) = some r := by first | (rw [hy107]; with_reducible exact H) | (have H2_ := (Option.bind_some _ _).symm.trans H; rw [hy107]; with_reducible exact H2_) | (have H2_ := (Option.bind_some _ _).symm.trans H; with_reducible exact H2_) | with_reducible exact H | (rw [hy107]; exact H) | exact H
     have Ny107 := am_ hy107
     clear hy107
     replace H := Option.bind_eq_some_iff.mp H
     obtain ⟨t110, A100, H⟩ := H
     replace H : ((spec_l01Root.f k t110).bind fun t111 => ((spec_l07Ntt.f k y107 t111).bind fun t112 => (some t112))) = some r := H
     have A10 := am_ A100
     clear A100
     replace H := Option.bind_eq_some_iff.mp H
     obtain ⟨t111, A110, H⟩ := H
     replace H : ((spec_l07Ntt.f k y107 t111).bind fun t112 => (some t112)) = some r := H
     have A11 := am_ A110
     clear A110
     replace H := Option.bind_eq_some_iff.mp H
     obtain ⟨t112, A120, H⟩ := H
     replace H : (some t112) = some r := H
     have A12 := am_ A120
     clear A120
     obtain rfl := Option.some.inj H
     go_enter Try.func106, Try.ntmps106
     go_wp2_with (first | ((with_reducible refine gate_dst (N := 12) rfl ?_); refine Kd.R_lit k34 _ 34 ?hg (N := 12) ?hd (xs := ([] : List (S34))) (inner := []) (ok := fun _ => True) (okp := fun _ => True) ?hr ?hp (fun _ hk => hk) trivial (Below.refl _ _) (Nat.le_refl _) (by simp) ?_; (case hd => rfl); (case hg => rfl); (case hr => first | (go_simp; done) | (go_simp; rfl)); (case hp => exact (Reps.none _ _)); intro v102 w13 ho14 hb hg_ hnew_; clear hg_ hnew_; (first | rw [← Ny101.out] at ho14 | (simp only [Int.reduceToNat] at ho14; rw [← Ny101.out] at ho14)); have n0_ := am_ (Kd.R_lower ho14 (below_size qz3_)); have n1_ := am_ (below_step qz3_ hb); clear HB; have HO103 := n0_; have HB := n1_; clear n0_ n1_; clear hb ho14) | ((with_reducible refine gate_builtin (b := .append) (xs := #[.tmp 12, .tmp 13]) rfl ?_); at_builtin; refine Kd.R_append_rows k34 (w0 := w) w.heap.size rfl (.tmp 12) (.tmp 13) 24 34 (.agg #[(.int .i64 0), (.int .i64 0)]) 16 rfl Try.underlying24 info34 rfl (by decide) (by omega) v102 y101 l0 _ _ _ (fun _ => True) (fun _ => False) rfl rfl ?aO ?aR (fun _ _ h => h) (fun _ h => h.elim) ?aF ?aB ?aS ?aL ?_; (case aR => exact qc_ (Kd.C_below HR0.out HB.out)); (case aB => exact qz3_); (case aF => exact (fun _ _ => trivial)); (case aO => exact qz10_); (case aS => exact (below_size qz3_)); (case aL => have := LMc6.out; omega); intro v105 w15 ho hb hg hat; rw [← Ny104.out] at ho; have n0_ := am_ (hb); have n1_ := am_ (ho); clear HB; clear HO103; have HB := n0_; have HO106 := n1_; clear n0_ n1_; clear ho hb hg hat) | (at_builtin; refine Kd.R_append_zeros k34 (w0 := w) w.heap.size rfl (.tmp 14) (.tmp 18) 24 3 34 (.agg #[(.int .i64 0), (.int .i64 0)]) 16 rfl Try.underlying24 Try.underlying3 info34 rfl (by decide) (by omega) v105 y104 z34 (ji7 : Int) (fun _ => True) rfl rfl (k34_mkM _ _ _ z34 ) ?aF ?aO (of_decide_eq_true qz6_) ?aB ?aS ?aL ?_; (case aB => exact qz3_); (case aF => exact (fun _ _ => trivial)); (case aO => exact qz12_); (case aS => exact (below_size qz3_)); (case aL => have := LMc9.out; omega); intro v108 w16 ho hb hg hat; rw [← Ny107.out] at ho; have n0_ := am_ (hb); have n1_ := am_ (ho); clear HB; clear HO106; have HB := n0_; have HO109 := n1_; clear n0_ n1_; clear ho hb hg hat) | ((with_reducible refine gate_callee (f := 137) rfl ?_); refine goesL_ (some 22) rfl rfl Try.func137 (by kernel_rfl) rfl #[.int .i64 ji5] rfl (by (try simp only [List.map_toArray, List.map_cons, List.map_nil]); first | done | (simp only [hji5]; rfl) | rfl | (simp only [List.length_drop, List.length_take]; rfl)) ?_; (with_reducible refine (spec_l06Vars.calls k ji5 t110 _ A10.out).mono ?_); rintro e w' ⟨rfl, ⟨nd, rfl⟩⟩; refine ⟨_, rfl, ?_⟩) | ((with_reducible refine gate_callee (f := 136) rfl ?_); refine goesL_ (some 23) rfl rfl Try.func136 (by kernel_rfl) rfl #[.int .i64 t110] rfl qz2_ ?_; (with_reducible refine (spec_l01Root.calls k t110 t111 _ A11.out).mono ?_); rintro e w' ⟨rfl, ⟨nd, rfl⟩⟩; refine ⟨_, rfl, ?_⟩; obtain ⟨Ao17, co17, eo17⟩ := Kd.R_slice HO109.out; subst eo17) | ((with_reducible refine gate_callee (f := 135) rfl ?_); refine goesL_ (some 24) rfl rfl Try.func135 (by kernel_rfl) rfl #[.slice Ao17 y107.length co17, .int .i64 t111] rfl qz2_ ?_; (with_reducible refine (spec_l07Ntt.calls k _ _ y107 t111 t112 _ ?side1 ?side2 A12.out).mono ?_); (case side1 => exact qc_ (Kd.R_reads' HO109.out).2.2); (case side2 => exact (Kd.R_reads' HO109.out).2.1); rintro e w18 ⟨v113, rfl, ho0, hb⟩; refine ⟨_, rfl, ?_⟩; have n0_ := am_ (Kd.R_elder' qz18_ (Kd.R_base ho0) hb); have n1_ := am_ (Kd.R_lower (Kd.R_new' ho0 (Kd.R_lt qz18_)) (below_size qz3_)); have n2_ := am_ (below_step qz3_ hb); clear HO109; clear HB; have HO109 := n0_; have HO114 := n1_; have HB := n2_; clear n0_ n1_ n2_; (try clear hb); (try clear hb2); (try clear hk); (try clear hi); (try clear ho0)))
     go_ret
     exact ⟨_, (by first | rfl | (simp [errW_none, errW_some] <;> rfl) | (simp only [← hji3, ← hji5, ← hji7]; first | rfl | (simp [errW_none, errW_some] <;> rfl)) | (simp [*, errW_none, errW_some] <;> rfl)), (by (with_reducible repeat (first | apply Kd.R_alloc | apply Kd.R_drewN | apply Kd.R_drew)); exact Kd.R_mono HO114.out (fun _ hk => trivial)), qz3_⟩
    ·
     rw [if_neg c9] at H
     exact absurd H (by simp)
   ·
    rw [if_neg c8] at H
    exact absurd H (by simp)
  ·
   rw [if_neg c6] at H
   exact absurd H (by simp)
 ·
  rw [if_neg c4] at H
  exact absurd H (by simp)

mutual
def spec_l06Coefs.l0 : Nat → Bool → List (S34) → Int → Option ((List (S34)))
 | 0, _, _, _ => none
 | k + 1, x1, x5, x6 => if x6 < (x5.length : Int) then (spec_l06Coefs.l1 k x1 x5 x6 0) else (some x5)
def spec_l06Coefs.l1 : Nat → Bool → List (S34) → Int → Int → Option ((List (S34)))
 | 0, _, _, _, _ => none
 | k + 1, x1, x5, x6, x7 => if x7 < (x5.length : Int) then (if (Go.bits .and .i64 x7 x6) = 0 then (spec_l06Coefs.l1 k x1 x5 x6 (wrap64 (x7 + 1))) else (if x1 = true then (if 0 ≤ x7 then (if 0 ≤ (Go.bits .xor .i64 x7 x6) then (if (Go.bits .xor .i64 x7 x6) < (x5.length : Int) then ((spec_l02Add.f ((rd_T34 x5 x7).f0) ((rd_T34 x5 x7).f1) ((rd_T34 x5 (Go.bits .xor .i64 x7 x6)).f0) ((rd_T34 x5 (Go.bits .xor .i64 x7 x6)).f1)).bind fun bt109 => (spec_l06Coefs.l1 k x1 (x5.set (x7 : Int).toNat (⟨bt109.1, bt109.2⟩ : S34)) x6 (wrap64 (x7 + 1)))) else (none)) else (none)) else (none)) else (if 0 ≤ x7 then (if 0 ≤ (Go.bits .xor .i64 x7 x6) then (if (Go.bits .xor .i64 x7 x6) < (x5.length : Int) then ((spec_l02Sub.f ((rd_T34 x5 x7).f0) ((rd_T34 x5 x7).f1) ((rd_T34 x5 (Go.bits .xor .i64 x7 x6)).f0) ((rd_T34 x5 (Go.bits .xor .i64 x7 x6)).f1)).bind fun bt114 => (spec_l06Coefs.l1 k x1 (x5.set (x7 : Int).toNat (⟨bt114.1, bt114.2⟩ : S34)) x6 (wrap64 (x7 + 1)))) else (none)) else (none)) else (none)))) else (spec_l06Coefs.l0 k x1 x5 (wrap64 (x6 * 2)))
end
def spec_l06Coefs.f (k : Nat) (l0 : List (S34)) (a1 : Bool) : Option ((List (S34))) := (some (([] : List (S34)) : List (S34))).bind fun y101 => (if y101.length + l0.length < 8796093022208 then (spec_l06Coefs.l0 k a1 (y101 ++ l0) 1) else (none))
theorem spec_l06Coefs.mono_l : ∀ k, (∀ y0 y1 y2, LeO (spec_l06Coefs.l0 k y0 y1 y2) (spec_l06Coefs.l0 (k + 1) y0 y1 y2)) ∧ (∀ y0 y1 y2 y3, LeO (spec_l06Coefs.l1 k y0 y1 y2 y3) (spec_l06Coefs.l1 (k + 1) y0 y1 y2 y3))
 | 0 => ⟨fun _ _ _ r h => by simp [spec_l06Coefs.l0] at h, fun _ _ _ _ r h => by simp [spec_l06Coefs.l1] at h⟩
 | k + 1 => by
  obtain ⟨ih0, ih1⟩ := spec_l06Coefs.mono_l k
  refine ⟨?_, ?_⟩
  ·
   intro y0 y1 y2
   unfold spec_l06Coefs.l0
   repeat' first
   | (with_reducible exact ih0 _ _ _)
   | (with_reducible exact ih1 _ _ _ _)
   | (with_reducible exact LeO.refl _)
   | (with_reducible exact LeO.none _)
   | (with_reducible refine LeO.ite ?_ ?_)
   | (with_reducible refine LeO.bind ?_ (fun _ => ?_))
   | exact ih0 _ _ _
   | exact ih1 _ _ _ _
   | exact LeO.none _
   | refine LeO.ite ?_ ?_
   | refine LeO.bind ?_ (fun _ => ?_)
  ·
   intro y0 y1 y2 y3
   unfold spec_l06Coefs.l1
   repeat' first
   | (with_reducible exact ih0 _ _ _)
   | (with_reducible exact ih1 _ _ _ _)
   | (with_reducible exact LeO.refl _)
   | (with_reducible exact LeO.none _)
   | (with_reducible refine LeO.ite ?_ ?_)
   | (with_reducible refine LeO.bind ?_ (fun _ => ?_))
   | exact ih0 _ _ _
   | exact ih1 _ _ _ _
   | exact LeO.none _
   | refine LeO.ite ?_ ?_
   | refine LeO.bind ?_ (fun _ => ?_)
theorem spec_l06Coefs.mono : ∀ a0 a1 k, LeO (spec_l06Coefs.f k a0 a1) (spec_l06Coefs.f (k + 1) a0 a1) := by
 intro a0 a1 k
 obtain ⟨ih0, ih1⟩ := spec_l06Coefs.mono_l k
 unfold spec_l06Coefs.f
 repeat' first
   | (with_reducible exact ih0 _ _ _)
   | (with_reducible exact ih1 _ _ _ _)
   | (with_reducible exact LeO.refl _)
   | (with_reducible exact LeO.none _)
   | (with_reducible refine LeO.ite ?_ ?_)
   | (with_reducible refine LeO.bind ?_ (fun _ => ?_))
   | exact ih0 _ _ _
   | exact ih1 _ _ _ _
   | exact LeO.none _
   | refine LeO.ite ?_ ?_
   | refine LeO.bind ?_ (fun _ => ?_)
def spec_l06Coefs.T10 : Bool × List (List Nat × List Nat) := (true, [([], []), ([], []), ([], []), ([], []), ([2, 3], [2, 3]), ([4], [4]), ([], []), ([], []), ([], []), ([7, 8], [7, 8]), ([6, 9], [6, 9]), ([10], [10]), ([5, 11], [5, 11]), ([0, 1, 0, 1, 2, 3, 4, 5, 6, 7, 8, 9, 10, 11, 12], [0, 1]), ([13, 12, 12, 0, 1, 2, 3, 4, 5, 6, 7, 8, 9, 10, 11, 12], [12, 13])])
def spec_l06Coefs.B10 : List Nat := [0, 0, 0, 0, 12, 28, 0, 0, 0, 384, 960, 1984, 4092, 8191, 16383]
theorem spec_l06Coefs.tab10 : rtab .any (opsOf Try.f107 10) = spec_l06Coefs.T10 := by kernel_rfl
theorem spec_l06Coefs.bits10 : waitsOk spec_l06Coefs.T10.2 spec_l06Coefs.B10 = true := by kernel_rfl
def spec_l06Coefs.T11 : Bool × List (List Nat × List Nat) := (true, [([], []), ([], []), ([], []), ([], []), ([2, 3], [2, 3]), ([4], [4]), ([], []), ([], []), ([], []), ([7, 8], [7, 8]), ([6, 9], [6, 9]), ([10], [10]), ([5, 11], [5, 11]), ([0, 1, 0, 1, 2, 3, 4, 5, 6, 7, 8, 9, 10, 11, 12], [0, 1]), ([13, 12, 12, 0, 1, 2, 3, 4, 5, 6, 7, 8, 9, 10, 11, 12], [12, 13])])
def spec_l06Coefs.B11 : List Nat := [0, 0, 0, 0, 12, 28, 0, 0, 0, 384, 960, 1984, 4092, 8191, 16383]
theorem spec_l06Coefs.tab11 : rtab .any (opsOf Try.f107 11) = spec_l06Coefs.T11 := by kernel_rfl
theorem spec_l06Coefs.bits11 : waitsOk spec_l06Coefs.T11.2 spec_l06Coefs.B11 = true := by kernel_rfl
set_option maxHeartbeats 8000000 in
set_option maxRecDepth 100000 in
theorem spec_l06Coefs.calls (k : Nat) (A0 : Option Addr) (c0 : Nat) (l0 : List (S34)) (a1 : Bool) (r : List (S34)) (w : World) (hr0 : Kd.C k34 w A0 l0.length l0) (hc0 : l0.length ≤ c0) (h : spec_l06Coefs.f k l0 a1 = some r) :
  Calls Try.prog 107 #[.slice A0 l0.length c0, .bool a1] w fun e w' => ∃ v0_ : Value, e = .returned (v0_) ∧ Kd.R k34 34 w' w.heap.size (fun _ => True) v0_ r ∧ Below w.heap.size w w' := by
 have hu34 := Try.underlying34
 have HR0 := am_ hr0
 have HC0 := am_ hc0
 clear hr0 hc0
 have HB := am_ (Below.refl w.heap.size w)
 have H : ((some (([] : List (S34)) : List (S34))).bind fun y101 => (if y101.length + l0.length < 8796093022208 then (spec_l06Coefs.l0 k a1 (y101 ++ l0) 1) else (none))) = some r := h
 clear h
 obtain ⟨y101, hy101⟩ : ∃ y_ : List (S34), y_ = (([] : List (S34))) := ⟨_, rfl⟩
 replace H : (if y101.length + l0.length < 8796093022208 then (spec_l06Coefs.l0 k a1 (y101 ++ l0) 1) else (none)) = some r := by first | (rw [hy101]; with_reducible exact H) | (have H2_ := (Option.bind_some _ _).symm.trans H; rw [hy101]; with_reducible exact H2_) | (have H2_ := (Option.bind_some _ _).symm.trans H; with_reducible exact H2_) | with_reducible exact H | (rw [hy101]; exact H) | exact H
 have Ny101 := am_ hy101
 clear hy101
 by_cases c3 : y101.length + l0.length < 8796093022208
 ·
  rw [if_pos c3] at H
  have LMc3 := am_ c3
  clear c3
  obtain ⟨y104, hy104⟩ : ∃ y_ : List (S34), y_ = (y101 ++ l0) := ⟨_, rfl⟩
  replace H : (spec_l06Coefs.l0 k a1 y104 1) = some r := by first | (rw [hy104]; with_reducible exact H) | (have H2_ := (Option.bind_some _ _).symm.trans H; rw [hy104]; with_reducible exact H2_) | (have H2_ := (Option.bind_some _ _).symm.trans H; with_reducible exact H2_) | with_reducible exact H | (rw [hy104]; exact H) | exact H
  have Ny104 := am_ hy104
  clear hy104
  have H' := am_ H
  clear H
  go_enter Try.func107, Try.ntmps107
  go_wp2_with (first | ((with_reducible refine gate_dst (N := 8) rfl ?_); refine Kd.R_lit k34 _ 34 ?hg (N := 8) ?hd (xs := ([] : List (S34))) (inner := []) (ok := fun _ => True) (okp := fun _ => True) ?hr ?hp (fun _ hk => hk) trivial (Below.refl _ _) (Nat.le_refl _) (by simp) ?_; (case hd => rfl); (case hg => rfl); (case hr => first | (go_simp; done) | (go_simp; rfl)); (case hp => exact (Reps.none _ _)); intro v102 w4 ho5 hb hg_ hnew_; clear hg_ hnew_; (first | rw [← Ny101.out] at ho5 | (simp only [Int.reduceToNat] at ho5; rw [← Ny101.out] at ho5)); have n0_ := am_ (Kd.R_lower ho5 (below_size qz3_)); have n1_ := am_ (below_step qz3_ hb); clear HB; have HO103 := n0_; have HB := n1_; clear n0_ n1_; clear hb ho5) | ((with_reducible refine gate_builtin (b := .append) (xs := #[.tmp 8, .tmp 9]) rfl ?_); at_builtin; refine Kd.R_append_rows k34 (w0 := w) w.heap.size rfl (.tmp 8) (.tmp 9) 24 34 (.agg #[(.int .i64 0), (.int .i64 0)]) 16 rfl Try.underlying24 info34 rfl (by decide) (by omega) v102 y101 l0 _ _ _ (fun _ => True) (fun _ => False) rfl rfl ?aO ?aR (fun _ _ h => h) (fun _ h => h.elim) ?aF ?aB ?aS ?aL ?_; (case aR => exact qc_ (Kd.C_below HR0.out HB.out)); (case aB => exact qz3_); (case aF => exact (fun _ _ => trivial)); (case aO => exact qz10_); (case aS => exact (below_size qz3_)); (case aL => have := LMc3.out; omega); intro v105 w6 ho hb hg hat; rw [← Ny104.out] at ho; have n0_ := am_ (hb); have n1_ := am_ (ho); clear HB; clear HO103; have HB := n0_; have HO106 := n1_; clear n0_ n1_; clear ho hb hg hat))
  go_loopg [6] k (fun kq v6 w' => ∃ (x5_1 : List (S34)) (x6_1 : Int), v6 = .int .i64 x6_1 ∧ Aside0 (spec_l06Coefs.l0 kq a1 x5_1 x6_1 = some r) ∧ Aside0 (kq ≤ k) ∧ Aside0 (Kd.R k34 34 w' w.heap.size (fun _ => True) v105 x5_1) ∧ Aside0 (Below w.heap.size w w'))
  case atStart => exact ⟨(y104), (1), qz0_, H', ⟨Nat.le_refl _⟩, ⟨qz12_⟩, ⟨qz3_⟩⟩
  case round =>
   clear H'
   try clear c1
   try clear p2
   try clear c3
   obtain ⟨x5_1, x6_1, rfl, HA, HK1, HO_5, HB⟩ := hrel
   cases gk with
   | zero => exact absurd HA.out (by simp [spec_l06Coefs.l0])
   | succ k1 =>
    have H := HA.out
    clear HA
    simp only [spec_l06Coefs.l0] at H
    by_cases c7 : x6_1 < (x5_1.length : Int)
    ·
     rw [if_pos c7] at H
     have c7b0 : decide (x6_1 < (x5_1.length : Int)) = true := decide_eq_true c7
     clear c7
     have H' := am_ H
     clear H
     obtain ⟨Ao8, co8, eo8⟩ := Kd.R_slice HO_5.out
     subst eo8
     go_wp2
     go_loopg [7] k1 (fun kq v7 w' => ∃ (x5_2 : List (S34)) (x7_2 : Int), v7 = .int .i64 x7_2 ∧ Aside0 (spec_l06Coefs.l1 kq a1 x5_2 x6_1 x7_2 = some r) ∧ Aside0 (kq ≤ k1) ∧ Aside0 (Kd.R k34 34 w' w.heap.size (fun _ => True) (.slice Ao8 x5_1.length co8) x5_2) ∧ Aside0 (Below w.heap.size w w'))
     case atStart => exact ⟨(x5_1), (0), qz0_, H', ⟨Nat.le_refl _⟩, ⟨qz11_⟩, ⟨qz3_⟩⟩
     case round =>
      clear H'
      try clear c1
      try clear p2
      try clear c3
      try clear c7
      try clear c7b0
      try clear p2
      obtain ⟨x5_2, x7_2, rfl, HA, HK2, HO_5, HB⟩ := hrel
      have hl5_2 := (Kd.R_reads' HO_5.out).1
      rw [hl5_2] at HO_5
      (try simp only [hl5_2])
      cases gk with
      | zero => exact absurd HA.out (by simp [spec_l06Coefs.l1])
      | succ k2 =>
       have H := HA.out
       clear HA
       simp only [spec_l06Coefs.l1] at H
       by_cases c9 : x7_2 < (x5_2.length : Int)
       ·
        rw [if_pos c9] at H
        have c9b0 : decide (x7_2 < (x5_2.length : Int)) = true := decide_eq_true c9
        clear c9
        by_cases c10 : (Go.bits .and .i64 x7_2 x6_1) = 0
        ·
         rw [if_pos c10] at H
         have c10b0 : ((Go.bits .and .i64 x7_2 x6_1) == 0) = true := beq_iff_eq.mpr c10
         have c10b1 : ((Go.bits .and .i64 x7_2 x6_1) != 0) = false := bne_eq_false_iff_eq.mpr c10
         clear c10
         have H' := am_ H
         clear H
         go_wp2
         (try simp only [← hl5_2])
         go_roundg k2
         case measure => have := HK1.out; have := HK2.out; omega
         case rel => exact ⟨(x5_2), (wrap64 (x7_2 + 1)), qz0_, H', ⟨(by have := HK1.out; have := HK2.out; omega)⟩, ⟨(by (try simp only [hl5_2]); (with_reducible repeat (first | apply Kd.R_alloc | apply Kd.R_drewN | apply Kd.R_drew)); exact HO_5.out)⟩, ⟨qz3_⟩⟩
        ·
         rw [if_neg c10] at H
         have c10b0 : ((Go.bits .and .i64 x7_2 x6_1) == 0) = false := beq_eq_false_iff_ne.mpr c10
         have c10b1 : ((Go.bits .and .i64 x7_2 x6_1) != 0) = true := bne_iff_ne.mpr c10
         by_cases c11 : a1 = true
         ·
          subst c11
          have H1 : (if 0 ≤ x7_2 then (if 0 ≤ (Go.bits .xor .i64 x7_2 x6_1) then (if (Go.bits .xor .i64 x7_2 x6_1) < (x5_2.length : Int) then ((spec_l02Add.f ((rd_T34 x5_2 x7_2).f0) ((rd_T34 x5_2 x7_2).f1) ((rd_T34 x5_2 (Go.bits .xor .i64 x7_2 x6_1)).f0) ((rd_T34 x5_2 (Go.bits .xor .i64 x7_2 x6_1)).f1)).bind fun bt109 => (spec_l06Coefs.l1 k2 true (x5_2.set (x7_2 : Int).toNat (⟨bt109.1, bt109.2⟩ : S34)) x6_1 (wrap64 (x7_2 + 1)))) else (none)) else (none)) else (none)) = some r := by rw [if_pos rfl] at H; exact H
          clear H
          have H := H1
          clear H1
          by_cases c12 : 0 ≤ x7_2
          ·
           rw [if_pos c12] at H
           have c12b0 : decide (0 ≤ x7_2) = true := decide_eq_true c12
           clear c12
           by_cases c13 : 0 ≤ (Go.bits .xor .i64 x7_2 x6_1)
           ·
            rw [if_pos c13] at H
            have c13b0 : decide (0 ≤ (Go.bits .xor .i64 x7_2 x6_1)) = true := decide_eq_true c13
            clear c13
            by_cases c14 : (Go.bits .xor .i64 x7_2 x6_1) < (x5_2.length : Int)
            ·
             rw [if_pos c14] at H
             have c14b0 : decide ((Go.bits .xor .i64 x7_2 x6_1) < (x5_2.length : Int)) = true := decide_eq_true c14
             clear c14
             replace H := Option.bind_eq_some_iff.mp H
             obtain ⟨⟨t109, t110⟩, A150, H⟩ := H
             replace H : (spec_l06Coefs.l1 k2 true (x5_2.set (x7_2 : Int).toNat (⟨t109, t110⟩ : S34)) x6_1 (wrap64 (x7_2 + 1))) = some r := H
             have A15 := am_ A150
             clear A150
             obtain ⟨y111, hy111⟩ : ∃ y_ : List (S34), y_ = (x5_2.set (x7_2 : Int).toNat (⟨t109, t110⟩ : S34)) := ⟨_, rfl⟩
             replace H : (spec_l06Coefs.l1 k2 true y111 x6_1 (wrap64 (x7_2 + 1))) = some r := by first | (rw [hy111]; with_reducible exact H) | (have H2_ := (Option.bind_some _ _).symm.trans H; rw [hy111]; with_reducible exact H2_) | (have H2_ := (Option.bind_some _ _).symm.trans H; with_reducible exact H2_) | with_reducible exact H | (rw [hy111]; exact H) | exact H
             have Ny111 := am_ hy111
             clear hy111
             have H' := am_ H
             clear H
             try go_wp2
             have n0_ := am_ (Kd.R_drew HO_5.out)
             have n1_ := am_ (below_drew1 HB.out)
             clear HO_5
             clear HB
             have HO_5 := n0_
             have HB := n1_
             clear n0_ n1_
             have p107 : 0 ≤ (x7_2 : Int) := of_decide_eq_true qz6_
             have q107 : x7_2 < (x5_2.length : Int) := of_decide_eq_true qz6_
             obtain ⟨ad107, e107, hx107_0, hx107_1⟩ := at_T34 (Kd.R_reads' HO_5.out).2.2 x7_2 p107 q107
             cases e107
             replace p107 := eq_true p107
             replace q107 := eq_true q107
             have p108 : 0 ≤ ((Go.bits .xor .i64 x7_2 x6_1) : Int) := of_decide_eq_true qz6_
             have q108 : (Go.bits .xor .i64 x7_2 x6_1) < (x5_2.length : Int) := of_decide_eq_true qz6_
             obtain ⟨ad108, e108, hx108_0, hx108_1⟩ := at_T34 (Kd.R_reads' HO_5.out).2.2 (Go.bits .xor .i64 x7_2 x6_1) p108 q108
             obtain rfl : ad107 = ad108 := (by injection e108)
             replace p108 := eq_true p108
             replace q108 := eq_true q108
             refine start_ (n := 15) (S := fun w' => w'.cell? (ad107.add ((x7_2).toNat * 2)) = some (.int .i64 ((rd_T34 x5_2 x7_2).f0)) ∧ w'.cell? ⟨(ad107.add ((x7_2).toNat * 2)).block, (ad107.add ((x7_2).toNat * 2)).off + 1, none⟩ = some (.int .i64 ((rd_T34 x5_2 x7_2).f1)) ∧ w'.cell? (ad107.add (((Go.bits .xor .i64 x7_2 x6_1)).toNat * 2)) = some (.int .i64 ((rd_T34 x5_2 (Go.bits .xor .i64 x7_2 x6_1)).f0)) ∧ w'.cell? ⟨(ad107.add (((Go.bits .xor .i64 x7_2 x6_1)).toNat * 2)).block, (ad107.add (((Go.bits .xor .i64 x7_2 x6_1)).toNat * 2)).off + 1, none⟩ = some (.int .i64 ((rd_T34 x5_2 (Go.bits .xor .i64 x7_2 x6_1)).f1))) (ds := [14]) #[false, false, false, false, false, false, false, false, false, false, false, false, false, false, false] (by kernel_rfl) rfl rfl ⟨hx107_0, hx107_1, hx108_0, hx108_1⟩ (fun hHeld => ?_); refine with_tabW spec_l06Coefs.tab10 spec_l06Coefs.bits10 (fun HT_ HW_ => ?_)
             generalize wr.drew = w17 at HO_5 HB hx107_0 hx107_1 hx108_0 hx108_1 hHeld ⊢
             refine pure_ (i := 0) (N := some 28) (v := ?_) (a' := ?_) #[true, false, false, false, false, false, false, false, false, false, false, false, false, false, false] rfl rfl (any_of HT_.out (by kernel_rfl)) (fun _ _ _ h => h) (Or.inl ⟨(by rfl), ?_⟩) ?_ ?_
             rotate_left
             ·
              intro w'
              go_simp
              with_reducible rfl
             rotate_left
             ·
              exact ap_
             refine pure_ (i := 1) (N := some 29) (v := ?_) (a' := ?_) #[true, true, false, false, false, false, false, false, false, false, false, false, false, false, false] rfl rfl (any_of HT_.out (by kernel_rfl)) (fun _ _ _ h => h) (Or.inl ⟨(by rfl), ?_⟩) ?_ ?_
             rotate_left
             ·
              intro w'
              go_simp
              with_reducible rfl
             rotate_left
             ·
              exact ap_
             refine pure_ (i := 2) (N := some 30) (v := ?_) (a' := ?_) #[true, true, true, false, false, false, false, false, false, false, false, false, false, false, false] rfl rfl (any_of HT_.out (by kernel_rfl)) (fun _ _ _ h => h) (Or.inl ⟨(by rfl), ?_⟩) ?_ ?_
             rotate_left
             ·
              intro w'
              go_simp
              with_reducible rfl
             rotate_left
             ·
              exact ap_
             refine pure_ (i := 3) (N := some 31) (v := ?_) (a' := ?_) #[true, true, true, true, false, false, false, false, false, false, false, false, false, false, false] rfl rfl (any_of HT_.out (by kernel_rfl)) (fun _ _ _ h => h) (Or.inl ⟨(by rfl), ?_⟩) ?_ ?_
             rotate_left
             ·
              intro w'
              go_simp
              with_reducible rfl
             rotate_left
             ·
              exact ap_
             refine pure_ (i := 4) (N := some 32) (v := ?_) (a' := ?_) #[true, true, true, true, true, false, false, false, false, false, false, false, false, false, false] rfl rfl (any_of HT_.out (by kernel_rfl)) (fun _ _ _ h => h) (Or.inl ⟨(by rfl), ?_⟩) ?_ ?_
             rotate_left
             ·
              intro w'
              go_simp
              with_reducible rfl
             rotate_left
             ·
              exact ap_
             refine pure_ (i := 6) (N := some 34) (v := ?_) (a' := ?_) #[true, true, true, true, true, false, true, false, false, false, false, false, false, false, false] rfl rfl (any_of HT_.out (by kernel_rfl)) (fun _ _ _ h => h) (Or.inl ⟨(by rfl), ?_⟩) ?_ ?_
             rotate_left
             ·
              intro w'
              go_simp
              with_reducible rfl
             rotate_left
             ·
              exact ap_
             refine pure_ (i := 7) (N := some 35) (v := ?_) (a' := ?_) #[true, true, true, true, true, false, true, true, false, false, false, false, false, false, false] rfl rfl (any_of HT_.out (by kernel_rfl)) (fun _ _ _ h => h) (Or.inl ⟨(by rfl), ?_⟩) ?_ ?_
             rotate_left
             ·
              intro w'
              go_simp
              with_reducible rfl
             rotate_left
             ·
              exact ap_
             refine pure_ (i := 8) (N := some 36) (v := ?_) (a' := ?_) #[true, true, true, true, true, false, true, true, true, false, false, false, false, false, false] rfl rfl (any_of HT_.out (by kernel_rfl)) (fun _ _ _ h => h) (Or.inl ⟨(by rfl), ?_⟩) ?_ ?_
             rotate_left
             ·
              intro w'
              go_simp
              with_reducible rfl
             rotate_left
             ·
              exact ap_
             refine pure_ (i := 9) (N := some 37) (v := ?_) (a' := ?_) #[true, true, true, true, true, false, true, true, true, true, false, false, false, false, false] rfl rfl (any_of HT_.out (by kernel_rfl)) (fun _ _ _ h => h) (Or.inl ⟨(by rfl), ?_⟩) ?_ ?_
             rotate_left
             ·
              intro w'
              go_simp
              with_reducible rfl
             rotate_left
             ·
              exact ap_
             refine pure_ (i := 10) (N := some 38) (v := ?_) (a' := ?_) #[true, true, true, true, true, false, true, true, true, true, true, false, false, false, false] rfl rfl (any_of HT_.out (by kernel_rfl)) (fun _ _ _ h => h) (Or.inl ⟨(by rfl), ?_⟩) ?_ ?_
             rotate_left
             ·
              intro w'
              go_simp
              with_reducible rfl
             rotate_left
             ·
              exact ap_
             refine take_ (i := 5) (N := some 33) (v := ?_) (a' := ?_) #[true, true, true, true, true, true, true, true, true, true, true, false, false, false, false] rfl rfl (take_ofW HT_.out HW_.out (by kernel_rfl)) (fun _ _ _ h => h) (Or.inl ⟨(by rfl), ?_⟩) hHeld ?_ ?_
             rotate_left
             ·
              rintro w' ⟨s0, s1, s2, s3⟩
              go_simp
              with_reducible rfl
             rotate_left
             ·
              exact ap_
             refine take_ (i := 11) (N := some 39) (v := ?_) (a' := ?_) #[true, true, true, true, true, true, true, true, true, true, true, true, false, false, false] rfl rfl (take_ofW HT_.out HW_.out (by kernel_rfl)) (fun _ _ _ h => h) (Or.inl ⟨(by rfl), ?_⟩) hHeld ?_ ?_
             rotate_left
             ·
              rintro w' ⟨s0, s1, s2, s3⟩
              go_simp
              with_reducible rfl
             rotate_left
             ·
              exact ap_
             refine one_ (i := 12) (N := some 40) #[true, true, true, true, true, true, true, true, true, true, true, true, true, false, false] rfl rfl (one_of HT_.out (by kernel_rfl)) (by decide) (fun K hK => ?_)
             refine goes_ Try.func116 (by kernel_rfl) rfl #[.agg #[.int .i64 ((rd_T34 x5_2 x7_2).f0), .int .i64 ((rd_T34 x5_2 x7_2).f1)], .agg #[.int .i64 ((rd_T34 x5_2 (Go.bits .xor .i64 x7_2 x6_1)).f0), .int .i64 ((rd_T34 x5_2 (Go.bits .xor .i64 x7_2 x6_1)).f1)]] (by rfl) rfl rfl qz2_ ?_
             with_reducible refine (spec_l02Add.calls ((rd_T34 x5_2 x7_2).f0) ((rd_T34 x5_2 x7_2).f1) ((rd_T34 x5_2 (Go.bits .xor .i64 x7_2 x6_1)).f0) ((rd_T34 x5_2 (Go.bits .xor .i64 x7_2 x6_1)).f1) t109 t110 _ A15.out).mono ?_
             rintro e w18 ⟨rfl, hb⟩
             have HS0_ := (hb.cell (World.block_lt_of_cell? _ _ (hHeld.1))).trans (hHeld.1)
             have HS1_ := (hb.cell (World.block_lt_of_cell? _ _ (hHeld.2.1))).trans (hHeld.2.1)
             have HS2_ := (hb.cell (World.block_lt_of_cell? _ _ (hHeld.2.2.1))).trans (hHeld.2.2.1)
             have HS3_ := (hb.cell (World.block_lt_of_cell? _ _ (hHeld.2.2.2))).trans (hHeld.2.2.2)
             refine ⟨_, rfl, ?_⟩
             have n0_ := am_ (Kd.R_below qz11_ hb)
             have n1_ := am_ (below_step qz3_ hb)
             clear HO_5
             clear HB
             have HO_5 := n0_
             have HB := n1_
             clear n0_ n1_
             (try clear hb)
             (try clear hb2)
             (try clear hk)
             (try clear hi)
             have p16 : 0 ≤ (x7_2 : Int) := of_decide_eq_true qz6_
             have q16 : (x7_2 : Int) < ((x5_2.length : Int) : Int) := of_decide_eq_true qz6_
             obtain ⟨go16, co16, eo16, gb16, gl16, cl16, HG16⟩ := Kd.R_form HO_5.out (by omega)
             (first | cases eo16 | (injection eo16 with ea_ en_ ec_; (first | subst ea_ | (injection ea_ with ea_; subst ea_)); subst ec_; clear en_))
             have GB16 := am_ gb16
             have GG16 := am_ HG16
             clear gb16 gl16 HG16
             (first | simp only [add_plain] at hx107_0 | skip)
             (first | simp only [add_plain] at hx107_1 | skip)
             (first | simp only [add_plain] at hx108_0 | skip)
             (first | simp only [add_plain] at hx108_1 | skip)
             obtain ⟨ce16, hcl16, hM16, hcc16, hfr16⟩ := Kd.R_elem HO_5.out z34 (x7_2 : Int) p16 q16
             obtain rfl := k34_openM hM16
             have hx16_0 : World.cell? _ ⟨go16, (x7_2 : Int).toNat * 2, none⟩ = some (.int .i64 ((rd_T34 x5_2 x7_2).f0)) := hcc16 0 _ rfl
             have hx16_1 : World.cell? _ ⟨go16, (x7_2 : Int).toNat * 2 + 1, none⟩ = some (.int .i64 ((rd_T34 x5_2 x7_2).f1)) := hcc16 1 _ rfl
             have hf16_0 : World.frozen? _ ⟨go16, (x7_2 : Int).toNat * 2, none⟩ = false := hfr16 0
             have hf16_1 : World.frozen? _ ⟨go16, (x7_2 : Int).toNat * 2 + 1, none⟩ = false := hfr16 1
             (try clear hcl16); (try clear hcc16); (try clear hfr16); (try clear hM16)
             replace p16 := eq_true p16
             replace q16 := eq_true q16
             obtain ⟨ce19, hcl19, hM19, hcc19, hfr19⟩ := Kd.R_elem HO_5.out z34 (x7_2 : Int) (of_decide_eq_true qz6_) (by have h_ : (x7_2 : Int) < ((x5_2.length : Int) : Int) := of_decide_eq_true qz6_; first | exact h_ | (have e_ := (Kd.R_reads' HO_5.out).1; omega) | simpa using h_)
             obtain rfl := k34_openM hM19
             have HP19 := (Kd.R_seg HO_5.out (x7_2 : Int) (of_decide_eq_true qz6_) (by have h_ : (x7_2 : Int) < ((x5_2.length : Int) : Int) := of_decide_eq_true qz6_; first | exact h_ | (have e_ := (Kd.R_reads' HO_5.out).1; omega) | simpa using h_) (seg := [.int .i64 t109, .int .i64 t110]) (j := 0) hcl19 hcc19 (show 2 ≤ 2 from by decide) (x' := (⟨t109, t110⟩ : S34)) (k34_mkM _ _ _ (⟨t109, t110⟩ : S34) ) (fun _ hk => hk)).1
             rw [← Ny111.out] at HP19
             have HQ19 := am_ HP19
             (try clear hcl19); (try clear hcc19); (try clear hfr19); (try clear hM19); (try clear HP19)
             refine hK.out _ _ ⟨HS0_, HS1_, HS2_, HS3_⟩ (fun hHeld => ?_)
             clear hK K
             refine norm_ (a' := ?_) ?_ ?_
             rotate_left
             ·
              show Act.put _ (some 40) _ = _
              exact ap_
             refine pure_ (i := 13) (N := some 41) (v := ?_) (a' := ?_) #[true, true, true, true, true, true, true, true, true, true, true, true, true, true, false] rfl rfl (any_of HT_.out (by kernel_rfl)) (fun _ _ _ h => h) (Or.inl ⟨(by rfl), ?_⟩) ?_ ?_
             rotate_left
             ·
              intro w'
              go_simp
              with_reducible rfl
             rotate_left
             ·
              exact ap_
             refine last_ (i := 14) (N := none) #[true, true, true, true, true, true, true, true, true, true, true, true, true, true, true] rfl rfl (one_of HT_.out (by kernel_rfl)) (by decide) (fun K hK => ?_)
             refine skip_ (w1 := ?_) (by rfl) rfl ?_ ?_
             rotate_left
             ·
              go_simp
              rfl
             refine hK.out _ _ ?_
             clear hK K
             refine done_ (done_of HT_.out (by kernel_rfl)) ?_
             try go_wp2
             (try simp only [← hl5_2])
             go_roundg k2
             case measure => have := HK1.out; have := HK2.out; omega
             case rel => exact ⟨(y111), (wrap64 (x7_2 + 1)), qz0_, H', ⟨(by have := HK1.out; have := HK2.out; omega)⟩, ⟨(by (try simp only [hl5_2]); (with_reducible repeat (first | apply Kd.R_alloc | apply Kd.R_drewN | apply Kd.R_drew)); exact HQ19.out)⟩, ⟨(by repeat (first | (with_reducible first | exact HB.out | apply below_alloc | apply pw_below_drewN | apply below_drew1 | refine below_set ?_ GB16.out | refine below_set ?_ GB16.out) | exact HB.out))⟩⟩
            ·
             rw [if_neg c14] at H
             exact absurd H (by simp)
           ·
            rw [if_neg c13] at H
            exact absurd H (by simp)
          ·
           rw [if_neg c12] at H
           exact absurd H (by simp)
         ·
          replace c11 := Bool.eq_false_iff.mpr c11
          subst c11
          have H1 : (if 0 ≤ x7_2 then (if 0 ≤ (Go.bits .xor .i64 x7_2 x6_1) then (if (Go.bits .xor .i64 x7_2 x6_1) < (x5_2.length : Int) then ((spec_l02Sub.f ((rd_T34 x5_2 x7_2).f0) ((rd_T34 x5_2 x7_2).f1) ((rd_T34 x5_2 (Go.bits .xor .i64 x7_2 x6_1)).f0) ((rd_T34 x5_2 (Go.bits .xor .i64 x7_2 x6_1)).f1)).bind fun bt114 => (spec_l06Coefs.l1 k2 false (x5_2.set (x7_2 : Int).toNat (⟨bt114.1, bt114.2⟩ : S34)) x6_1 (wrap64 (x7_2 + 1)))) else (none)) else (none)) else (none)) = some r := by rw [if_neg (show ¬ (false = true) by decide)] at H; exact H
          clear H
          have H := H1
          clear H1
          by_cases c20 : 0 ≤ x7_2
          ·
           rw [if_pos c20] at H
           have c20b0 : decide (0 ≤ x7_2) = true := decide_eq_true c20
           clear c20
           by_cases c21 : 0 ≤ (Go.bits .xor .i64 x7_2 x6_1)
           ·
            rw [if_pos c21] at H
            have c21b0 : decide (0 ≤ (Go.bits .xor .i64 x7_2 x6_1)) = true := decide_eq_true c21
            clear c21
            by_cases c22 : (Go.bits .xor .i64 x7_2 x6_1) < (x5_2.length : Int)
            ·
             rw [if_pos c22] at H
             have c22b0 : decide ((Go.bits .xor .i64 x7_2 x6_1) < (x5_2.length : Int)) = true := decide_eq_true c22
             clear c22
             replace H := Option.bind_eq_some_iff.mp H
             obtain ⟨⟨t114, t115⟩, A230, H⟩ := H
             replace H : (spec_l06Coefs.l1 k2 false (x5_2.set (x7_2 : Int).toNat (⟨t114, t115⟩ : S34)) x6_1 (wrap64 (x7_2 + 1))) = some r := H
             have A23 := am_ A230
             clear A230
             obtain ⟨y116, hy116⟩ : ∃ y_ : List (S34), y_ = (x5_2.set (x7_2 : Int).toNat (⟨t114, t115⟩ : S34)) := ⟨_, rfl⟩
             replace H : (spec_l06Coefs.l1 k2 false y116 x6_1 (wrap64 (x7_2 + 1))) = some r := by first | (rw [hy116]; with_reducible exact H) | (have H2_ := (Option.bind_some _ _).symm.trans H; rw [hy116]; with_reducible exact H2_) | (have H2_ := (Option.bind_some _ _).symm.trans H; with_reducible exact H2_) | with_reducible exact H | (rw [hy116]; exact H) | exact H
             have Ny116 := am_ hy116
             clear hy116
             have H' := am_ H
             clear H
             try go_wp2
             have n0_ := am_ (Kd.R_drew HO_5.out)
             have n1_ := am_ (below_drew1 HB.out)
             clear HO_5
             clear HB
             have HO_5 := n0_
             have HB := n1_
             clear n0_ n1_
             have p112 : 0 ≤ (x7_2 : Int) := of_decide_eq_true qz6_
             have q112 : x7_2 < (x5_2.length : Int) := of_decide_eq_true qz6_
             obtain ⟨ad112, e112, hx112_0, hx112_1⟩ := at_T34 (Kd.R_reads' HO_5.out).2.2 x7_2 p112 q112
             cases e112
             replace p112 := eq_true p112
             replace q112 := eq_true q112
             have p113 : 0 ≤ ((Go.bits .xor .i64 x7_2 x6_1) : Int) := of_decide_eq_true qz6_
             have q113 : (Go.bits .xor .i64 x7_2 x6_1) < (x5_2.length : Int) := of_decide_eq_true qz6_
             obtain ⟨ad113, e113, hx113_0, hx113_1⟩ := at_T34 (Kd.R_reads' HO_5.out).2.2 (Go.bits .xor .i64 x7_2 x6_1) p113 q113
             obtain rfl : ad112 = ad113 := (by injection e113)
             replace p113 := eq_true p113
             replace q113 := eq_true q113
             refine start_ (n := 15) (S := fun w' => w'.cell? (ad112.add ((x7_2).toNat * 2)) = some (.int .i64 ((rd_T34 x5_2 x7_2).f0)) ∧ w'.cell? ⟨(ad112.add ((x7_2).toNat * 2)).block, (ad112.add ((x7_2).toNat * 2)).off + 1, none⟩ = some (.int .i64 ((rd_T34 x5_2 x7_2).f1)) ∧ w'.cell? (ad112.add (((Go.bits .xor .i64 x7_2 x6_1)).toNat * 2)) = some (.int .i64 ((rd_T34 x5_2 (Go.bits .xor .i64 x7_2 x6_1)).f0)) ∧ w'.cell? ⟨(ad112.add (((Go.bits .xor .i64 x7_2 x6_1)).toNat * 2)).block, (ad112.add (((Go.bits .xor .i64 x7_2 x6_1)).toNat * 2)).off + 1, none⟩ = some (.int .i64 ((rd_T34 x5_2 (Go.bits .xor .i64 x7_2 x6_1)).f1))) (ds := [14]) #[false, false, false, false, false, false, false, false, false, false, false, false, false, false, false] (by kernel_rfl) rfl rfl ⟨hx112_0, hx112_1, hx113_0, hx113_1⟩ (fun hHeld => ?_); refine with_tabW spec_l06Coefs.tab11 spec_l06Coefs.bits11 (fun HT_ HW_ => ?_)
             generalize wr.drew = w25 at HO_5 HB hx112_0 hx112_1 hx113_0 hx113_1 hHeld ⊢
             refine pure_ (i := 0) (N := some 42) (v := ?_) (a' := ?_) #[true, false, false, false, false, false, false, false, false, false, false, false, false, false, false] rfl rfl (any_of HT_.out (by kernel_rfl)) (fun _ _ _ h => h) (Or.inl ⟨(by rfl), ?_⟩) ?_ ?_
             rotate_left
             ·
              intro w'
              go_simp
              with_reducible rfl
             rotate_left
             ·
              exact ap_
             refine pure_ (i := 1) (N := some 43) (v := ?_) (a' := ?_) #[true, true, false, false, false, false, false, false, false, false, false, false, false, false, false] rfl rfl (any_of HT_.out (by kernel_rfl)) (fun _ _ _ h => h) (Or.inl ⟨(by rfl), ?_⟩) ?_ ?_
             rotate_left
             ·
              intro w'
              go_simp
              with_reducible rfl
             rotate_left
             ·
              exact ap_
             refine pure_ (i := 2) (N := some 44) (v := ?_) (a' := ?_) #[true, true, true, false, false, false, false, false, false, false, false, false, false, false, false] rfl rfl (any_of HT_.out (by kernel_rfl)) (fun _ _ _ h => h) (Or.inl ⟨(by rfl), ?_⟩) ?_ ?_
             rotate_left
             ·
              intro w'
              go_simp
              with_reducible rfl
             rotate_left
             ·
              exact ap_
             refine pure_ (i := 3) (N := some 45) (v := ?_) (a' := ?_) #[true, true, true, true, false, false, false, false, false, false, false, false, false, false, false] rfl rfl (any_of HT_.out (by kernel_rfl)) (fun _ _ _ h => h) (Or.inl ⟨(by rfl), ?_⟩) ?_ ?_
             rotate_left
             ·
              intro w'
              go_simp
              with_reducible rfl
             rotate_left
             ·
              exact ap_
             refine pure_ (i := 4) (N := some 46) (v := ?_) (a' := ?_) #[true, true, true, true, true, false, false, false, false, false, false, false, false, false, false] rfl rfl (any_of HT_.out (by kernel_rfl)) (fun _ _ _ h => h) (Or.inl ⟨(by rfl), ?_⟩) ?_ ?_
             rotate_left
             ·
              intro w'
              go_simp
              with_reducible rfl
             rotate_left
             ·
              exact ap_
             refine pure_ (i := 6) (N := some 48) (v := ?_) (a' := ?_) #[true, true, true, true, true, false, true, false, false, false, false, false, false, false, false] rfl rfl (any_of HT_.out (by kernel_rfl)) (fun _ _ _ h => h) (Or.inl ⟨(by rfl), ?_⟩) ?_ ?_
             rotate_left
             ·
              intro w'
              go_simp
              with_reducible rfl
             rotate_left
             ·
              exact ap_
             refine pure_ (i := 7) (N := some 49) (v := ?_) (a' := ?_) #[true, true, true, true, true, false, true, true, false, false, false, false, false, false, false] rfl rfl (any_of HT_.out (by kernel_rfl)) (fun _ _ _ h => h) (Or.inl ⟨(by rfl), ?_⟩) ?_ ?_
             rotate_left
             ·
              intro w'
              go_simp
              with_reducible rfl
             rotate_left
             ·
              exact ap_
             refine pure_ (i := 8) (N := some 50) (v := ?_) (a' := ?_) #[true, true, true, true, true, false, true, true, true, false, false, false, false, false, false] rfl rfl (any_of HT_.out (by kernel_rfl)) (fun _ _ _ h => h) (Or.inl ⟨(by rfl), ?_⟩) ?_ ?_
             rotate_left
             ·
              intro w'
              go_simp
              with_reducible rfl
             rotate_left
             ·
              exact ap_
             refine pure_ (i := 9) (N := some 51) (v := ?_) (a' := ?_) #[true, true, true, true, true, false, true, true, true, true, false, false, false, false, false] rfl rfl (any_of HT_.out (by kernel_rfl)) (fun _ _ _ h => h) (Or.inl ⟨(by rfl), ?_⟩) ?_ ?_
             rotate_left
             ·
              intro w'
              go_simp
              with_reducible rfl
             rotate_left
             ·
              exact ap_
             refine pure_ (i := 10) (N := some 52) (v := ?_) (a' := ?_) #[true, true, true, true, true, false, true, true, true, true, true, false, false, false, false] rfl rfl (any_of HT_.out (by kernel_rfl)) (fun _ _ _ h => h) (Or.inl ⟨(by rfl), ?_⟩) ?_ ?_
             rotate_left
             ·
              intro w'
              go_simp
              with_reducible rfl
             rotate_left
             ·
              exact ap_
             refine take_ (i := 5) (N := some 47) (v := ?_) (a' := ?_) #[true, true, true, true, true, true, true, true, true, true, true, false, false, false, false] rfl rfl (take_ofW HT_.out HW_.out (by kernel_rfl)) (fun _ _ _ h => h) (Or.inl ⟨(by rfl), ?_⟩) hHeld ?_ ?_
             rotate_left
             ·
              rintro w' ⟨s0, s1, s2, s3⟩
              go_simp
              with_reducible rfl
             rotate_left
             ·
              exact ap_
             refine take_ (i := 11) (N := some 53) (v := ?_) (a' := ?_) #[true, true, true, true, true, true, true, true, true, true, true, true, false, false, false] rfl rfl (take_ofW HT_.out HW_.out (by kernel_rfl)) (fun _ _ _ h => h) (Or.inl ⟨(by rfl), ?_⟩) hHeld ?_ ?_
             rotate_left
             ·
              rintro w' ⟨s0, s1, s2, s3⟩
              go_simp
              with_reducible rfl
             rotate_left
             ·
              exact ap_
             refine one_ (i := 12) (N := some 54) #[true, true, true, true, true, true, true, true, true, true, true, true, true, false, false] rfl rfl (one_of HT_.out (by kernel_rfl)) (by decide) (fun K hK => ?_)
             refine goes_ Try.func138 (by kernel_rfl) rfl #[.agg #[.int .i64 ((rd_T34 x5_2 x7_2).f0), .int .i64 ((rd_T34 x5_2 x7_2).f1)], .agg #[.int .i64 ((rd_T34 x5_2 (Go.bits .xor .i64 x7_2 x6_1)).f0), .int .i64 ((rd_T34 x5_2 (Go.bits .xor .i64 x7_2 x6_1)).f1)]] (by rfl) rfl rfl qz2_ ?_
             with_reducible refine (spec_l02Sub.calls ((rd_T34 x5_2 x7_2).f0) ((rd_T34 x5_2 x7_2).f1) ((rd_T34 x5_2 (Go.bits .xor .i64 x7_2 x6_1)).f0) ((rd_T34 x5_2 (Go.bits .xor .i64 x7_2 x6_1)).f1) t114 t115 _ A23.out).mono ?_
             rintro e w26 ⟨rfl, hb⟩
             have HS0_ := (hb.cell (World.block_lt_of_cell? _ _ (hHeld.1))).trans (hHeld.1)
             have HS1_ := (hb.cell (World.block_lt_of_cell? _ _ (hHeld.2.1))).trans (hHeld.2.1)
             have HS2_ := (hb.cell (World.block_lt_of_cell? _ _ (hHeld.2.2.1))).trans (hHeld.2.2.1)
             have HS3_ := (hb.cell (World.block_lt_of_cell? _ _ (hHeld.2.2.2))).trans (hHeld.2.2.2)
             refine ⟨_, rfl, ?_⟩
             have n0_ := am_ (Kd.R_below qz11_ hb)
             have n1_ := am_ (below_step qz3_ hb)
             clear HO_5
             clear HB
             have HO_5 := n0_
             have HB := n1_
             clear n0_ n1_
             (try clear hb)
             (try clear hb2)
             (try clear hk)
             (try clear hi)
             have p24 : 0 ≤ (x7_2 : Int) := of_decide_eq_true qz6_
             have q24 : (x7_2 : Int) < ((x5_2.length : Int) : Int) := of_decide_eq_true qz6_
             obtain ⟨go24, co24, eo24, gb24, gl24, cl24, HG24⟩ := Kd.R_form HO_5.out (by omega)
             (first | cases eo24 | (injection eo24 with ea_ en_ ec_; (first | subst ea_ | (injection ea_ with ea_; subst ea_)); subst ec_; clear en_))
             have GB24 := am_ gb24
             have GG24 := am_ HG24
             clear gb24 gl24 HG24
             (first | simp only [add_plain] at hx112_0 | skip)
             (first | simp only [add_plain] at hx112_1 | skip)
             (first | simp only [add_plain] at hx113_0 | skip)
             (first | simp only [add_plain] at hx113_1 | skip)
             obtain ⟨ce24, hcl24, hM24, hcc24, hfr24⟩ := Kd.R_elem HO_5.out z34 (x7_2 : Int) p24 q24
             obtain rfl := k34_openM hM24
             have hx24_0 : World.cell? _ ⟨go24, (x7_2 : Int).toNat * 2, none⟩ = some (.int .i64 ((rd_T34 x5_2 x7_2).f0)) := hcc24 0 _ rfl
             have hx24_1 : World.cell? _ ⟨go24, (x7_2 : Int).toNat * 2 + 1, none⟩ = some (.int .i64 ((rd_T34 x5_2 x7_2).f1)) := hcc24 1 _ rfl
             have hf24_0 : World.frozen? _ ⟨go24, (x7_2 : Int).toNat * 2, none⟩ = false := hfr24 0
             have hf24_1 : World.frozen? _ ⟨go24, (x7_2 : Int).toNat * 2 + 1, none⟩ = false := hfr24 1
             (try clear hcl24); (try clear hcc24); (try clear hfr24); (try clear hM24)
             replace p24 := eq_true p24
             replace q24 := eq_true q24
             obtain ⟨ce27, hcl27, hM27, hcc27, hfr27⟩ := Kd.R_elem HO_5.out z34 (x7_2 : Int) (of_decide_eq_true qz6_) (by have h_ : (x7_2 : Int) < ((x5_2.length : Int) : Int) := of_decide_eq_true qz6_; first | exact h_ | (have e_ := (Kd.R_reads' HO_5.out).1; omega) | simpa using h_)
             obtain rfl := k34_openM hM27
             have HP27 := (Kd.R_seg HO_5.out (x7_2 : Int) (of_decide_eq_true qz6_) (by have h_ : (x7_2 : Int) < ((x5_2.length : Int) : Int) := of_decide_eq_true qz6_; first | exact h_ | (have e_ := (Kd.R_reads' HO_5.out).1; omega) | simpa using h_) (seg := [.int .i64 t114, .int .i64 t115]) (j := 0) hcl27 hcc27 (show 2 ≤ 2 from by decide) (x' := (⟨t114, t115⟩ : S34)) (k34_mkM _ _ _ (⟨t114, t115⟩ : S34) ) (fun _ hk => hk)).1
             rw [← Ny116.out] at HP27
             have HQ27 := am_ HP27
             (try clear hcl27); (try clear hcc27); (try clear hfr27); (try clear hM27); (try clear HP27)
             refine hK.out _ _ ⟨HS0_, HS1_, HS2_, HS3_⟩ (fun hHeld => ?_)
             clear hK K
             refine norm_ (a' := ?_) ?_ ?_
             rotate_left
             ·
              show Act.put _ (some 54) _ = _
              exact ap_
             refine pure_ (i := 13) (N := some 55) (v := ?_) (a' := ?_) #[true, true, true, true, true, true, true, true, true, true, true, true, true, true, false] rfl rfl (any_of HT_.out (by kernel_rfl)) (fun _ _ _ h => h) (Or.inl ⟨(by rfl), ?_⟩) ?_ ?_
             rotate_left
             ·
              intro w'
              go_simp
              with_reducible rfl
             rotate_left
             ·
              exact ap_
             refine last_ (i := 14) (N := none) #[true, true, true, true, true, true, true, true, true, true, true, true, true, true, true] rfl rfl (one_of HT_.out (by kernel_rfl)) (by decide) (fun K hK => ?_)
             refine skip_ (w1 := ?_) (by rfl) rfl ?_ ?_
             rotate_left
             ·
              go_simp
              rfl
             refine hK.out _ _ ?_
             clear hK K
             refine done_ (done_of HT_.out (by kernel_rfl)) ?_
             try go_wp2
             (try simp only [← hl5_2])
             go_roundg k2
             case measure => have := HK1.out; have := HK2.out; omega
             case rel => exact ⟨(y116), (wrap64 (x7_2 + 1)), qz0_, H', ⟨(by have := HK1.out; have := HK2.out; omega)⟩, ⟨(by (try simp only [hl5_2]); (with_reducible repeat (first | apply Kd.R_alloc | apply Kd.R_drewN | apply Kd.R_drew)); exact HQ27.out)⟩, ⟨(by repeat (first | (with_reducible first | exact HB.out | apply below_alloc | apply pw_below_drewN | apply below_drew1 | refine below_set ?_ GB24.out | refine below_set ?_ GB24.out) | exact HB.out))⟩⟩
            ·
             rw [if_neg c22] at H
             exact absurd H (by simp)
           ·
            rw [if_neg c21] at H
            exact absurd H (by simp)
          ·
           rw [if_neg c20] at H
           exact absurd H (by simp)
       ·
        rw [if_neg c9] at H
        have c9b0 : decide (x7_2 < (x5_2.length : Int)) = false := decide_eq_false c9
        clear c9
        have H' := am_ H
        clear H
        go_wp2
        (try simp only [← hl5_2])
        go_roundg k2
        case measure => have := HK1.out; have := HK2.out; omega
        case rel => exact ⟨(x5_2), (wrap64 (x6_1 * 2)), qz0_, H', ⟨(by have := HK1.out; have := HK2.out; omega)⟩, ⟨(by (try simp only [hl5_2]); (with_reducible repeat (first | apply Kd.R_alloc | apply Kd.R_drewN | apply Kd.R_drew)); exact HO_5.out)⟩, ⟨qz3_⟩⟩
    ·
     rw [if_neg c7] at H
     have c7b0 : decide (x6_1 < (x5_1.length : Int)) = false := decide_eq_false c7
     clear c7
     obtain rfl := Option.some.inj H
     obtain ⟨Ao28, co28, eo28⟩ := Kd.R_slice HO_5.out
     subst eo28
     go_wp2
     go_ret
     exact ⟨_, qz4_, qz11_, qz3_⟩
 ·
  rw [if_neg c3] at H
  exact absurd H (by simp)

def spec_l09Word.f (k : Nat) (l0 : List (S34)) (a1 : Int) : Option ((List (S34))) := (spec_l06Coefs.f k l0 false).bind fun t101 => ((spec_l07Encode.f k t101 a1).bind fun t104 => (some t104))
theorem spec_l09Word.mono : ∀ a0 a1 k, LeO (spec_l09Word.f k a0 a1) (spec_l09Word.f (k + 1) a0 a1) := by
 intro a0 a1 k
 unfold spec_l09Word.f
 repeat' first
   | (with_reducible exact spec_l06Coefs.mono _ _ _)
   | (with_reducible exact spec_l07Encode.mono _ _ _)
   | (with_reducible exact LeO.refl _)
   | (with_reducible exact LeO.none _)
   | (with_reducible refine LeO.ite ?_ ?_)
   | (with_reducible refine LeO.bind ?_ (fun _ => ?_))
   | exact spec_l06Coefs.mono _ _ _
   | exact spec_l07Encode.mono _ _ _
   | exact LeO.none _
   | refine LeO.ite ?_ ?_
   | refine LeO.bind ?_ (fun _ => ?_)
set_option maxHeartbeats 8000000 in
set_option maxRecDepth 100000 in
theorem spec_l09Word.calls (k : Nat) (A0 : Option Addr) (c0 : Nat) (l0 : List (S34)) (a1 : Int) (r : List (S34)) (w : World) (hr0 : Kd.C k34 w A0 l0.length l0) (hc0 : l0.length ≤ c0) (h : spec_l09Word.f k l0 a1 = some r) :
  Calls Try.prog 64 #[.slice A0 l0.length c0, .int .i64 a1] w fun e w' => ∃ v0_ : Value, e = .returned (v0_) ∧ Kd.R k34 34 w' w.heap.size (fun _ => True) v0_ r ∧ Below w.heap.size w w' := by
 have HR0 := am_ hr0
 have HC0 := am_ hc0
 clear hr0 hc0
 have HB := am_ (Below.refl w.heap.size w)
 have H : ((spec_l06Coefs.f k l0 false).bind fun t101 => ((spec_l07Encode.f k t101 a1).bind fun t104 => (some t104))) = some r := h
 clear h
 replace H := Option.bind_eq_some_iff.mp H
 obtain ⟨t101, A30, H⟩ := H
 replace H : ((spec_l07Encode.f k t101 a1).bind fun t104 => (some t104)) = some r := H
 have A3 := am_ A30
 clear A30
 replace H := Option.bind_eq_some_iff.mp H
 obtain ⟨t104, A40, H⟩ := H
 replace H : (some t104) = some r := H
 have A4 := am_ A40
 clear A40
 obtain rfl := Option.some.inj H
 go_enter Try.func64, Try.ntmps64
 go_wp2_with (first | ((with_reducible refine gate_callee (f := 107) rfl ?_); refine goesL_ (some 6) rfl rfl Try.func107 (by kernel_rfl) rfl #[.slice A0 l0.length c0, .bool false] rfl qz2_ ?_; (with_reducible refine (spec_l06Coefs.calls k _ _ l0 false t101 _ ?side1 ?side2 A3.out).mono ?_); (case side1 => exact qc_ HR0.out); (case side2 => exact HC0.out); rintro e w5 ⟨v102, rfl, ho0, hb⟩; refine ⟨_, rfl, ?_⟩; have n0_ := am_ (Kd.R_lower ho0 (below_size qz3_)); have n1_ := am_ (below_step qz3_ hb); clear HB; have HO103 := n0_; have HB := n1_; clear n0_ n1_; (try clear hb); (try clear hb2); (try clear hk); (try clear hi); (try clear ho0); obtain ⟨Ao6, co6, eo6⟩ := Kd.R_slice HO103.out; subst eo6) | ((with_reducible refine gate_callee (f := 106) rfl ?_); refine goesL_ (some 8) rfl rfl Try.func106 (by kernel_rfl) rfl #[.slice Ao6 t101.length co6, .int .i64 a1] rfl qz2_ ?_; (with_reducible refine (spec_l07Encode.calls k _ _ t101 a1 t104 _ ?side1 ?side2 A4.out).mono ?_); (case side1 => exact qc_ (Kd.R_reads' HO103.out).2.2); (case side2 => exact (Kd.R_reads' HO103.out).2.1); rintro e w7 ⟨v105, rfl, ho0, hb⟩; refine ⟨_, rfl, ?_⟩; have n0_ := am_ (Kd.R_elder' qz10_ (Kd.R_base ho0) hb); have n1_ := am_ (Kd.R_lower (Kd.R_new' ho0 (Kd.R_lt qz10_)) (below_size qz3_)); have n2_ := am_ (below_step qz3_ hb); clear HO103; clear HB; have HO103 := n0_; have HO106 := n1_; have HB := n2_; clear n0_ n1_ n2_; (try clear hb); (try clear hb2); (try clear hk); (try clear hi); (try clear ho0)))
 go_ret
 exact ⟨_, qz4_, (by (with_reducible repeat (first | apply Kd.R_alloc | apply Kd.R_drewN | apply Kd.R_drew)); exact Kd.R_mono HO106.out (fun _ hk => trivial)), qz3_⟩

def spec_CommitTable.j0 : Nat → List (S34) → Int → Bool → Option (ByteArray × Int)
 | 0, _, _, _ => none
 | k + 1, x0, x1, x20 => if x20 = true then (some ((⟨#[]⟩ : ByteArray), 4)) else ((spec_l09Word.f k x0 x1).bind fun t104 => ((spec_l09Leaves.f k t104).bind fun t107 => ((spec_l04Root.f t107).bind fun t110 => (some (t110, 0)))))
def spec_CommitTable.f (k : Nat) (l0 : List (S34)) (a1 : Int) : Option (ByteArray × Int) := if (l0.length : Int) > 4096 then (some ((⟨#[]⟩ : ByteArray), 2)) else ((spec_TableOK.f k l0).bind fun t101 => (if t101 = true then ((spec_l09Vars.f k (l0.length : Int)).bind fun t102 => (if t102 = true then ((spec_l01In.f a1 1 3).bind fun t103 => (spec_CommitTable.j0 k l0 a1 (!t103))) else (spec_CommitTable.j0 k l0 a1 true))) else (some ((⟨#[]⟩ : ByteArray), 1))))
theorem spec_CommitTable.mono_l : ∀ k, (∀ y0 y1 y2, LeO (spec_CommitTable.j0 k y0 y1 y2) (spec_CommitTable.j0 (k + 1) y0 y1 y2))
 | 0 => fun _ _ _ r h => by simp [spec_CommitTable.j0] at h
 | k + 1 => by
  have ih0 := spec_CommitTable.mono_l k
  ·
   intro y0 y1 y2
   unfold spec_CommitTable.j0
   repeat' first
   | (with_reducible exact ih0 _ _ _)
   | (with_reducible exact spec_TableOK.mono _ _)
   | (with_reducible exact spec_l09Leaves.mono _ _)
   | (with_reducible exact spec_l09Vars.mono _ _)
   | (with_reducible exact spec_l09Word.mono _ _ _)
   | (with_reducible exact LeO.refl _)
   | (with_reducible exact LeO.none _)
   | (with_reducible refine LeO.ite ?_ ?_)
   | (with_reducible refine LeO.bind ?_ (fun _ => ?_))
   | exact ih0 _ _ _
   | exact spec_TableOK.mono _ _
   | exact spec_l09Leaves.mono _ _
   | exact spec_l09Vars.mono _ _
   | exact spec_l09Word.mono _ _ _
   | exact LeO.none _
   | refine LeO.ite ?_ ?_
   | refine LeO.bind ?_ (fun _ => ?_)
theorem spec_CommitTable.mono : ∀ a0 a1 k, LeO (spec_CommitTable.f k a0 a1) (spec_CommitTable.f (k + 1) a0 a1) := by
 intro a0 a1 k
 have ih0 := spec_CommitTable.mono_l k
 unfold spec_CommitTable.f
 repeat' first
   | (with_reducible exact ih0 _ _ _)
   | (with_reducible exact spec_TableOK.mono _ _)
   | (with_reducible exact spec_l09Leaves.mono _ _)
   | (with_reducible exact spec_l09Vars.mono _ _)
   | (with_reducible exact spec_l09Word.mono _ _ _)
   | (with_reducible exact LeO.refl _)
   | (with_reducible exact LeO.none _)
   | (with_reducible refine LeO.ite ?_ ?_)
   | (with_reducible refine LeO.bind ?_ (fun _ => ?_))
   | exact ih0 _ _ _
   | exact spec_TableOK.mono _ _
   | exact spec_l09Leaves.mono _ _
   | exact spec_l09Vars.mono _ _
   | exact spec_l09Word.mono _ _ _
   | exact LeO.none _
   | refine LeO.ite ?_ ?_
   | refine LeO.bind ?_ (fun _ => ?_)
set_option maxHeartbeats 8000000 in
set_option maxRecDepth 100000 in
theorem spec_CommitTable.calls (k : Nat) (A0 : Option Addr) (c0 : Nat) (l0 : List (S34)) (a1 : Int) (r1 : ByteArray) (r2 : Int) (w : World) (hr0 : Kd.C k34 w A0 l0.length l0) (hc0 : l0.length ≤ c0) (h : spec_CommitTable.f k l0 a1 = some (r1, r2)) :
  Calls Try.prog 20 #[.slice A0 l0.length c0, .int .i64 a1] w fun e w' => e = .returned (.tuple #[.string r1, .int .i64 r2]) ∧ Below w.heap.size w w' := by
 have HR0 := am_ hr0
 have HC0 := am_ hc0
 clear hr0 hc0
 have HB := am_ (Below.refl w.heap.size w)
 have H : (if (l0.length : Int) > 4096 then (some ((⟨#[]⟩ : ByteArray), 2)) else ((spec_TableOK.f k l0).bind fun t101 => (if t101 = true then ((spec_l09Vars.f k (l0.length : Int)).bind fun t102 => (if t102 = true then ((spec_l01In.f a1 1 3).bind fun t103 => (spec_CommitTable.j0 k l0 a1 (!t103))) else (spec_CommitTable.j0 k l0 a1 true))) else (some ((⟨#[]⟩ : ByteArray), 1))))) = some (r1, r2) := h
 clear h
 by_cases c3 : (l0.length : Int) > 4096
 ·
  rw [if_pos c3] at H
  have c3b0 : decide (4096 < (l0.length : Int)) = true := decide_eq_true c3
  have c3b1 : decide (4096 < l0.length) = true := decide_eq_true (by omega)
  clear c3
  simp only [Option.some.injEq, Prod.mk.injEq] at H
  obtain ⟨rfl, rfl⟩ := H
  go_enter Try.func20, Try.ntmps20
  go_wp2
  go_ret2
  exact ⟨qz4_, qz3_⟩
 ·
  rw [if_neg c3] at H
  have c3b0 : decide (4096 < (l0.length : Int)) = false := decide_eq_false c3
  have c3b1 : decide (4096 < l0.length) = false := decide_eq_false (by omega)
  clear c3
  replace H := Option.bind_eq_some_iff.mp H
  obtain ⟨t101, A40, H⟩ := H
  replace H : (if t101 = true then ((spec_l09Vars.f k (l0.length : Int)).bind fun t102 => (if t102 = true then ((spec_l01In.f a1 1 3).bind fun t103 => (spec_CommitTable.j0 k l0 a1 (!t103))) else (spec_CommitTable.j0 k l0 a1 true))) else (some ((⟨#[]⟩ : ByteArray), 1))) = some (r1, r2) := H
  have A4 := am_ A40
  clear A40
  by_cases c5 : t101 = true
  ·
   subst c5
   have H1 : ((spec_l09Vars.f k (l0.length : Int)).bind fun t102 => (if t102 = true then ((spec_l01In.f a1 1 3).bind fun t103 => (spec_CommitTable.j0 k l0 a1 (!t103))) else (spec_CommitTable.j0 k l0 a1 true))) = some (r1, r2) := by rw [if_pos rfl] at H; exact H
   clear H
   have H := H1
   clear H1
   have HC6 := am_ H
   clear H
   go_enter Try.func20, Try.ntmps20
   go_upto_region 5 with (first | ((with_reducible refine gate_callee (f := 59) rfl ?_); refine goesL_ (some 10) rfl rfl Try.func59 (by kernel_rfl) rfl #[.slice A0 l0.length c0] rfl qz2_ ?_; (with_reducible refine (spec_TableOK.calls k _ _ l0 true _ ?side1 ?side2 A4.out).mono ?_); (case side1 => exact qc_ HR0.out); (case side2 => exact HC0.out); rintro e w7 ⟨rfl, hb⟩; refine ⟨_, rfl, ?_⟩; have n0_ := am_ (below_step qz3_ hb); clear HB; have HB := n0_; clear n0_; (try clear hb); (try clear hb2); (try clear hk); (try clear hi)))
   (try simp only [Act.put, List.setIfInBounds_toArray, List.set_cons_zero, List.set_cons_succ])
   go_cut [20] (fun v20 wc => ∃ (kq : Nat) (x20_5 : Bool), v20 = .bool x20_5 ∧ Aside0 (spec_CommitTable.j0 kq l0 a1 x20_5 = some (r1, r2)) ∧ Aside0 (kq ≤ k) ∧ Aside0 (Below w.heap.size w wc))
   case first =>
    have H := HC6.out
    clear HC6
    replace H := Option.bind_eq_some_iff.mp H
    obtain ⟨t102, A80, H⟩ := H
    replace H : (if t102 = true then ((spec_l01In.f a1 1 3).bind fun t103 => (spec_CommitTable.j0 k l0 a1 (!t103))) else (spec_CommitTable.j0 k l0 a1 true)) = some (r1, r2) := H
    have A8 := am_ A80
    clear A80
    by_cases c9 : t102 = true
    ·
     subst c9
     have H1 : ((spec_l01In.f a1 1 3).bind fun t103 => (spec_CommitTable.j0 k l0 a1 (!t103))) = some (r1, r2) := by rw [if_pos rfl] at H; exact H
     clear H
     have H := H1
     clear H1
     replace H := Option.bind_eq_some_iff.mp H
     obtain ⟨t103, A100, H⟩ := H
     replace H : (spec_CommitTable.j0 k l0 a1 (!t103)) = some (r1, r2) := H
     have A10 := am_ A100
     clear A100
     have H' := am_ H
     clear H
     go_wp2_with (first | ((with_reducible refine gate_callee (f := 60) rfl ?_); refine goesL_ (some 14) rfl rfl Try.func60 (by kernel_rfl) rfl #[.int .i64 (l0.length : Int)] rfl qz2_ ?_; (with_reducible refine (spec_l09Vars.calls k (l0.length : Int) true _ A8.out).mono ?_); rintro e w' ⟨rfl, ⟨nd, rfl⟩⟩; refine ⟨_, rfl, ?_⟩) | (go_at_call 61; (with_reducible refine (spec_l01In.calls a1 1 3 t103 _ A10.out).mono ?_); rintro e w' ⟨rfl, ⟨nd, rfl⟩⟩))
     go_meet
     case rel => exact ⟨_, (!t103), qz0_, H', ⟨(by first | omega | exact Nat.le_refl _)⟩, ⟨qz3_⟩⟩
    ·
     replace c9 := Bool.eq_false_iff.mpr c9
     subst c9
     have H1 : (spec_CommitTable.j0 k l0 a1 true) = some (r1, r2) := by rw [if_neg (show ¬ (false = true) by decide)] at H; exact H
     clear H
     have H := H1
     clear H1
     have H' := am_ H
     clear H
     go_wp2_with (first | ((with_reducible refine gate_callee (f := 60) rfl ?_); refine goesL_ (some 14) rfl rfl Try.func60 (by kernel_rfl) rfl #[.int .i64 (l0.length : Int)] rfl qz2_ ?_; (with_reducible refine (spec_l09Vars.calls k (l0.length : Int) false _ A8.out).mono ?_); rintro e w' ⟨rfl, ⟨nd, rfl⟩⟩; refine ⟨_, rfl, ?_⟩))
     go_meet
     case rel => exact ⟨_, (true), qz0_, H', ⟨(by first | omega | exact Nat.le_refl _)⟩, ⟨qz3_⟩⟩
   case rest =>
    clear HC6
    try clear c2
    try clear p2
    try clear c3
    try clear c3b0
    try clear c3b1
    try clear c5
    try clear c6
    try clear c9
    obtain ⟨kq, x20_5, rfl, HA, HJ5, HB⟩ := hcut
    cases kq with
    | zero => exact absurd HA.out (by simp [spec_CommitTable.j0])
    | succ kj5 =>
     have H := HA.out
     clear HA
     simp only [spec_CommitTable.j0] at H
     by_cases c11 : x20_5 = true
     ·
      subst c11
      have H1 : (some ((⟨#[]⟩ : ByteArray), 4)) = some (r1, r2) := by rw [if_pos rfl] at H; exact H
      clear H
      have H := H1
      clear H1
      simp only [Option.some.injEq, Prod.mk.injEq] at H
      obtain ⟨rfl, rfl⟩ := H
      go_wp2
      go_ret2
      exact ⟨qz4_, qz3_⟩
     ·
      replace c11 := Bool.eq_false_iff.mpr c11
      subst c11
      have H1 : ((spec_l09Word.f kj5 l0 a1).bind fun t104 => ((spec_l09Leaves.f kj5 t104).bind fun t107 => ((spec_l04Root.f t107).bind fun t110 => (some (t110, 0))))) = some (r1, r2) := by rw [if_neg (show ¬ (false = true) by decide)] at H; exact H
      clear H
      have H := H1
      clear H1
      replace H := Option.bind_eq_some_iff.mp H
      obtain ⟨t104, A120, H⟩ := H
      replace H : ((spec_l09Leaves.f kj5 t104).bind fun t107 => ((spec_l04Root.f t107).bind fun t110 => (some (t110, 0)))) = some (r1, r2) := H
      have A12 := am_ A120
      clear A120
      replace H := Option.bind_eq_some_iff.mp H
      obtain ⟨t107, A130, H⟩ := H
      replace H : ((spec_l04Root.f t107).bind fun t110 => (some (t110, 0))) = some (r1, r2) := H
      have A13 := am_ A130
      clear A130
      replace H := Option.bind_eq_some_iff.mp H
      obtain ⟨t110, A140, H⟩ := H
      replace H : (some (t110, 0)) = some (r1, r2) := H
      have A14 := am_ A140
      clear A140
      simp only [Option.some.injEq, Prod.mk.injEq] at H
      obtain ⟨rfl, rfl⟩ := H
      go_wp2_with (first | ((with_reducible refine gate_callee (f := 64) rfl ?_); refine goesL_ (some 23) rfl rfl Try.func64 (by kernel_rfl) rfl #[.slice A0 l0.length c0, .int .i64 a1] rfl qz2_ ?_; (with_reducible refine (spec_l09Word.calls kj5 _ _ l0 a1 t104 _ ?side1 ?side2 A12.out).mono ?_); (case side1 => exact qc_ (Kd.C_below HR0.out HB.out)); (case side2 => exact HC0.out); rintro e w15 ⟨v105, rfl, ho0, hb⟩; refine ⟨_, rfl, ?_⟩; have n0_ := am_ (Kd.R_lower ho0 (below_size qz3_)); have n1_ := am_ (below_step qz3_ hb); clear HB; have HO106 := n0_; have HB := n1_; clear n0_ n1_; (try clear hb); (try clear hb2); (try clear hk); (try clear hi); (try clear ho0); obtain ⟨Ao16, co16, eo16⟩ := Kd.R_slice HO106.out; subst eo16) | ((with_reducible refine gate_callee (f := 63) rfl ?_); refine goesL_ (some 24) rfl rfl Try.func63 (by kernel_rfl) rfl #[.slice Ao16 t104.length co16] rfl qz2_ ?_; (with_reducible refine (spec_l09Leaves.calls kj5 _ _ t104 t107 _ ?side1 ?side2 A13.out).mono ?_); (case side1 => exact qc_ (Kd.R_reads' HO106.out).2.2); (case side2 => exact (Kd.R_reads' HO106.out).2.1); rintro e w17 ⟨v108, rfl, ho0, hb⟩; refine ⟨_, rfl, ?_⟩; have n0_ := am_ (Kd.R_below qz12_ hb); have n1_ := am_ (Kd.R_lower ho0 (below_size qz3_)); have n2_ := am_ (below_step qz3_ hb); clear HO106; clear HB; have HO106 := n0_; have HO109 := n1_; have HB := n2_; clear n0_ n1_ n2_; (try clear hb); (try clear hb2); (try clear hk); (try clear hi); (try clear ho0); obtain ⟨Ao18, co18, eo18⟩ := Kd.R_slice HO109.out; subst eo18) | ((with_reducible refine gate_callee (f := 62) rfl ?_); refine goesL_ (some 25) rfl rfl Try.func62 (by kernel_rfl) rfl #[.slice Ao18 t107.length co18] rfl qz2_ ?_; (with_reducible refine (spec_l04Root.calls _ _ t107 t110 _ ?side1 ?side2 A14.out).mono ?_); (case side1 => exact qc_ (Kd.R_reads' HO109.out).2.2); (case side2 => exact (Kd.R_reads' HO109.out).2.1); rintro e w19 ⟨rfl, hb⟩; refine ⟨_, rfl, ?_⟩; have n0_ := am_ (Kd.R_below qz12_ hb); have n1_ := am_ (Kd.R_below qz18_ hb); have n2_ := am_ (below_step qz3_ hb); clear HO106; clear HO109; clear HB; have HO106 := n0_; have HO109 := n1_; have HB := n2_; clear n0_ n1_ n2_; (try clear hb); (try clear hb2); (try clear hk); (try clear hi)))
      go_ret2
      exact ⟨qz4_, qz3_⟩
  ·
   replace c5 := Bool.eq_false_iff.mpr c5
   subst c5
   have H1 : (some ((⟨#[]⟩ : ByteArray), 1)) = some (r1, r2) := by rw [if_neg (show ¬ (false = true) by decide)] at H; exact H
   clear H
   have H := H1
   clear H1
   simp only [Option.some.injEq, Prod.mk.injEq] at H
   obtain ⟨rfl, rfl⟩ := H
   go_enter Try.func20, Try.ntmps20
   go_wp2_with (first | ((with_reducible refine gate_callee (f := 59) rfl ?_); refine goesL_ (some 10) rfl rfl Try.func59 (by kernel_rfl) rfl #[.slice A0 l0.length c0] rfl qz2_ ?_; (with_reducible refine (spec_TableOK.calls k _ _ l0 false _ ?side1 ?side2 A4.out).mono ?_); (case side1 => exact qc_ HR0.out); (case side2 => exact HC0.out); rintro e w20 ⟨rfl, hb⟩; refine ⟨_, rfl, ?_⟩; have n0_ := am_ (below_step qz3_ hb); clear HB; have HB := n0_; clear n0_; (try clear hb); (try clear hb2); (try clear hk); (try clear hi)))
   go_ret2
   exact ⟨qz4_, qz3_⟩

def laws_toExt.f (a0_0 : Int) (a0_1 : Int) : Option (Int × Int) := some (a0_0, a0_1)
set_option maxHeartbeats 8000000 in
set_option maxRecDepth 100000 in
theorem laws_toExt.calls (a0_0 : Int) (a0_1 : Int) (r1 : Int) (r2 : Int) (w : World) (h : laws_toExt.f a0_0 a0_1 = some (r1, r2)) :
  Calls Try.prog 27 #[.agg #[.int .i64 a0_0, .int .i64 a0_1]] w fun e w' => e = .returned (.agg #[.int .i64 r1, .int .i64 r2]) ∧ Below w.heap.size w w' := by
 have hu56 := Try.underlying56
 have hu34 := Try.underlying34
 have HB := am_ (Below.refl w.heap.size w)
 have H : (some (a0_0, a0_1)) = some (r1, r2) := h
 clear h
 simp only [Option.some.injEq, Prod.mk.injEq] at H
 obtain ⟨rfl, rfl⟩ := H
 go_enter Try.func27, Try.ntmps27
 go_wp2_with (first | ((with_reducible refine gate_dst (N := 1) rfl ?_); refine box_event ?hg (N := 1) ?hd (cs := #[.int .i64 a0_0, .int .i64 a0_1]) (t := 56) ?hr ?_; (case hd => rfl); (case hg => rfl); (case hr => first | (go_simp; done) | (go_simp; rfl)); intro gb101 hg w2 hbox hb; have n0_ := am_ (below_step qz3_ hb); have n1_ := am_ (hbox); have n2_ := am_ ((by rw [hg]; exact (below_size qz3_) : w.heap.size ≤ gb101)); have n3_ := am_ ((by rw [hg]; exact (below_size qz3_) : w.heap.size ≤ gb101)); clear HB; have HB := n0_; have BK101 := n1_; have GW101 := n2_; have GE101 := n3_; clear n0_ n1_ n2_ n3_; clear hb hbox hg) | ((with_reducible refine gate_dst (N := 2) rfl ?_); refine box_event ?hg (N := 2) ?hd (cs := #[.int .i64 0, .int .i64 0]) (t := 34) ?hr ?_; (case hd => rfl); (case hg => rfl); (case hr => first | (go_simp; done) | (go_simp; rfl)); intro gb102 hg w3 hbox hb; have n0_ := am_ (blk_below (g := gb101) (o := .cells #[.int .i64 a0_0, .int .i64 a0_1] 56 (0, 0)) qz13_ hb); have n1_ := am_ (below_step qz5_ hb); have n2_ := am_ (hbox); have n3_ := am_ ((by rw [hg]; exact (below_size qz5_) : w.heap.size ≤ gb102)); have n4_ := am_ ((by rw [hg]; exact (below_size qz5_) : w.heap.size ≤ gb102)); have n5_ := am_ ((by rw [hg]; exact Nat.ne_of_lt (blk_lt (g := gb101) (o := .cells #[.int .i64 a0_0, .int .i64 a0_1] 56 (0, 0)) qz13_) : gb101 ≠ gb102)); have n6_ := am_ ((by rw [hg]; exact Nat.ne_of_gt (blk_lt (g := gb101) (o := .cells #[.int .i64 a0_0, .int .i64 a0_1] 56 (0, 0)) qz13_) : gb102 ≠ gb101)); clear BK101; clear HB; have BK101 := n0_; have HB := n1_; have BK102 := n2_; have GW102 := n3_; have GE102 := n4_; have NB101_102 := n5_; have NB102_101 := n6_; clear n0_ n1_ n2_ n3_ n4_ n5_ n6_; clear hb hbox hg) | ((with_reducible refine gate_dst (N := 3) rfl ?_); refine box_event ?hg (N := 3) ?hd (cs := #[.int .i64 0, .int .i64 0]) (t := 34) ?hr ?_; (case hd => rfl); (case hg => rfl); (case hr => first | (go_simp; done) | (go_simp; rfl)); intro gb103 hg w4 hbox hb; have n0_ := am_ (blk_below (g := gb101) (o := .cells #[.int .i64 a0_0, .int .i64 a0_1] 56 (0, 0)) qz13_ hb); have n1_ := am_ (blk_below (g := gb102) (o := .cells #[.int .i64 0, .int .i64 0] 34 (0, 0)) qz14_ hb); have n2_ := am_ (below_step qz15_ hb); have n3_ := am_ (hbox); have n4_ := am_ ((by rw [hg]; exact (below_size qz15_) : w.heap.size ≤ gb103)); have n5_ := am_ ((by rw [hg]; exact (below_size qz15_) : w.heap.size ≤ gb103)); have n6_ := am_ ((by rw [hg]; exact Nat.ne_of_lt (blk_lt (g := gb101) (o := .cells #[.int .i64 a0_0, .int .i64 a0_1] 56 (0, 0)) qz13_) : gb101 ≠ gb103)); have n7_ := am_ ((by rw [hg]; exact Nat.ne_of_gt (blk_lt (g := gb101) (o := .cells #[.int .i64 a0_0, .int .i64 a0_1] 56 (0, 0)) qz13_) : gb103 ≠ gb101)); have n8_ := am_ ((by rw [hg]; exact Nat.ne_of_lt (blk_lt (g := gb102) (o := .cells #[.int .i64 0, .int .i64 0] 34 (0, 0)) qz14_) : gb102 ≠ gb103)); have n9_ := am_ ((by rw [hg]; exact Nat.ne_of_gt (blk_lt (g := gb102) (o := .cells #[.int .i64 0, .int .i64 0] 34 (0, 0)) qz14_) : gb103 ≠ gb102)); clear BK101; clear BK102; clear HB; have BK101 := n0_; have BK102 := n1_; have HB := n2_; have BK103 := n3_; have GW103 := n4_; have GE103 := n5_; have NB101_103 := n6_; have NB103_101 := n7_; have NB102_103 := n8_; have NB103_102 := n9_; clear n0_ n1_ n2_ n3_ n4_ n5_ n6_ n7_ n8_ n9_; clear hb hbox hg; have hnb5 := NB101_102.out; have hnc5 := NB102_101.out; have hnb6 := NB101_103.out; have hnc6 := NB103_101.out; have hcz7_0 : w4.cell? ⟨gb101, 0, none⟩ = some (.int .i64 a0_0) := (blk_cell BK101.out 0).trans rfl; have hcz7_1 : w4.cell? ⟨gb101, 1, none⟩ = some (.int .i64 a0_1) := (blk_cell BK101.out 1).trans rfl; have hfz7_0 := blk_frozen BK101.out 0; have hfz7_1 := blk_frozen BK101.out 1; have hnb8 := NB103_102.out; have hnc8 := NB102_103.out; have hcz9_0 : w4.cell? ⟨gb103, 0, none⟩ = some (.int .i64 0) := (blk_cell BK103.out 0).trans rfl; have hcz9_1 : w4.cell? ⟨gb103, 1, none⟩ = some (.int .i64 0) := (blk_cell BK103.out 1).trans rfl; have hfz9_0 := blk_frozen BK103.out 0; have hfz9_1 := blk_frozen BK103.out 1; have hcz10_0 : w4.cell? ⟨gb102, 0, none⟩ = some (.int .i64 0) := (blk_cell BK102.out 0).trans rfl; have hcz10_1 : w4.cell? ⟨gb102, 1, none⟩ = some (.int .i64 0) := (blk_cell BK102.out 1).trans rfl; have hfz10_0 := blk_frozen BK102.out 0; have hfz10_1 := blk_frozen BK102.out 1))
 refine bodyPost_ret (results_cell_row rfl _ _ gb102 34 #[.int .i64 a0_0, .int .i64 a0_1] (0, 0) _ rfl (by (with_reducible repeat (first | refine blk_drewN ?_ _ | refine blk_drew ?_ | refine blk_alloc ?_ _)); refine blk_put (cs := #[.int .i64 a0_0, .int .i64 0]) ?_ 1 _ rfl; (with_reducible repeat (first | refine blk_drewN ?_ _ | refine blk_drew ?_ | refine blk_alloc ?_ _)); refine blk_put (cs := #[.int .i64 0, .int .i64 0]) ?_ 0 _ rfl; (with_reducible repeat (first | refine blk_drewN ?_ _ | refine blk_drew ?_ | refine blk_alloc ?_ _)); refine blk_far ?_ NB102_103.out _; (with_reducible repeat (first | refine blk_drewN ?_ _ | refine blk_drew ?_ | refine blk_alloc ?_ _)); refine blk_far ?_ NB102_103.out _; (with_reducible repeat (first | refine blk_drewN ?_ _ | refine blk_drew ?_ | refine blk_alloc ?_ _)); exact BK102.out) Try.underlying34 rfl (by kernel_rfl)) rfl ?_
 exact ⟨qz4_, qz17_⟩

def laws_toExtS.l0 : Nat → List (S56) → List (S34) → Int → Option ((List (S34)))
 | 0, _, _, _ => none
 | k + 1, x0, x3, x4 => if x4 < (x0.length : Int) then (if 0 ≤ x4 then ((laws_toExt.f ((rd_T56 x0 x4).f0) ((rd_T56 x0 x4).f1)).bind fun bt105 => (if x4 < (x3.length : Int) then (laws_toExtS.l0 k x0 (x3.set (x4 : Int).toNat (⟨bt105.1, bt105.2⟩ : S34)) (wrap64 (x4 + 1))) else (none))) else (none)) else (some x3)
def laws_toExtS.f (k : Nat) (l0 : List (S56)) : Option ((List (S34))) := if 0 ≤ (l0.length : Int) then (if ((l0.length : Int) : Int).toNat ≤ 17592186044416 then (laws_toExtS.l0 k l0 (List.replicate ((l0.length : Int) : Int).toNat z34) 0) else (none)) else (none)
theorem laws_toExtS.mono_l : ∀ k, (∀ y0 y1 y2, LeO (laws_toExtS.l0 k y0 y1 y2) (laws_toExtS.l0 (k + 1) y0 y1 y2))
 | 0 => fun _ _ _ r h => by simp [laws_toExtS.l0] at h
 | k + 1 => by
  have ih0 := laws_toExtS.mono_l k
  ·
   intro y0 y1 y2
   unfold laws_toExtS.l0
   repeat' first
   | (with_reducible exact ih0 _ _ _)
   | (with_reducible exact LeO.refl _)
   | (with_reducible exact LeO.none _)
   | (with_reducible refine LeO.ite ?_ ?_)
   | (with_reducible refine LeO.bind ?_ (fun _ => ?_))
   | exact ih0 _ _ _
   | exact LeO.none _
   | refine LeO.ite ?_ ?_
   | refine LeO.bind ?_ (fun _ => ?_)
theorem laws_toExtS.mono : ∀ a0 k, LeO (laws_toExtS.f k a0) (laws_toExtS.f (k + 1) a0) := by
 intro a0 k
 have ih0 := laws_toExtS.mono_l k
 unfold laws_toExtS.f
 repeat' first
   | (with_reducible exact ih0 _ _ _)
   | (with_reducible exact LeO.refl _)
   | (with_reducible exact LeO.none _)
   | (with_reducible refine LeO.ite ?_ ?_)
   | (with_reducible refine LeO.bind ?_ (fun _ => ?_))
   | exact ih0 _ _ _
   | exact LeO.none _
   | refine LeO.ite ?_ ?_
   | refine LeO.bind ?_ (fun _ => ?_)
set_option maxHeartbeats 8000000 in
set_option maxRecDepth 100000 in
theorem laws_toExtS.calls (k : Nat) (A0 : Option Addr) (c0 : Nat) (l0 : List (S56)) (r : List (S34)) (w : World) (hr0 : Kd.C k56 w A0 l0.length l0) (hc0 : l0.length ≤ c0) (h : laws_toExtS.f k l0 = some r) :
  Calls Try.prog 21 #[.slice A0 l0.length c0] w fun e w' => ∃ v0_ : Value, e = .returned (v0_) ∧ Kd.R k34 34 w' w.heap.size (fun _ => True) v0_ r ∧ Below w.heap.size w w' := by
 have hu56 := Try.underlying56
 have hu34 := Try.underlying34
 have HR0 := am_ hr0
 have HC0 := am_ hc0
 clear hr0 hc0
 have HB := am_ (Below.refl w.heap.size w)
 have H : (if 0 ≤ (l0.length : Int) then (if ((l0.length : Int) : Int).toNat ≤ 17592186044416 then (laws_toExtS.l0 k l0 (List.replicate ((l0.length : Int) : Int).toNat z34) 0) else (none)) else (none)) = some r := h
 clear h
 by_cases c2 : 0 ≤ (l0.length : Int)
 ·
  rw [if_pos c2] at H
  have c2b0 := eq_true c2
  have c2b1 : decide (0 ≤ (l0.length : Int)) = true := decide_eq_true c2
  clear c2
  by_cases c3 : ((l0.length : Int) : Int).toNat ≤ 17592186044416
  ·
   rw [if_pos c3] at H
   have c3b0 := eq_true c3
   have c3b1 : decide (((l0.length : Int) : Int).toNat ≤ 17592186044416) = true := decide_eq_true c3
   clear c3
   obtain ⟨y101, hy101⟩ : ∃ y_ : List (S34), y_ = (List.replicate ((l0.length : Int) : Int).toNat z34) := ⟨_, rfl⟩
   replace H : (laws_toExtS.l0 k l0 y101 0) = some r := by first | (rw [hy101]; with_reducible exact H) | (have H2_ := (Option.bind_some _ _).symm.trans H; rw [hy101]; with_reducible exact H2_) | (have H2_ := (Option.bind_some _ _).symm.trans H; with_reducible exact H2_) | with_reducible exact H | (rw [hy101]; exact H) | exact H
   have Ny101 := am_ hy101
   clear hy101
   have H' := am_ H
   clear H
   go_enter Try.func21, Try.ntmps21
   go_wp2_with (first | ((with_reducible refine gate_dst (N := 7) rfl ?_); refine Kd.R_make k34 _ 34 rfl (N := 7) rfl 24 _ _ rfl (l0.length : Int) rfl rfl Try.underlying24 (.agg #[(.int .i64 0), (.int .i64 0)]) 16 info34 rfl (by decide) (by omega) z34 (ok := fun _ => True) (okp := fun _ => True) (k34_mkM _ _ _ z34 ) (fun _ hk => hk) trivial (of_decide_eq_true qz6_) (Nat.le_trans (Nat.mul_le_mul_right _ (of_decide_eq_true qz6_ : (l0.length : Int).toNat ≤ 17592186044416)) (by omega)) (Below.refl _ _) (Nat.le_refl _) ?_; intro v102 w4 ho5 hb hg_ hnew_; clear hg_ hnew_; (first | rw [← Ny101.out] at ho5 | (simp only [Int.reduceToNat] at ho5; rw [← Ny101.out] at ho5)); have n0_ := am_ (Kd.R_lower ho5 (below_size qz3_)); have n1_ := am_ (below_step qz3_ hb); clear HB; have HO103 := n0_; have HB := n1_; clear n0_ n1_; clear hb ho5))
   go_loopg [4] k (fun kq v4 w' => ∃ (x3_1 : List (S34)) (x4_1 : Int), v4 = .int .i64 x4_1 ∧ Aside0 (laws_toExtS.l0 kq l0 x3_1 x4_1 = some r) ∧ Aside0 (kq ≤ k) ∧ Aside0 (Kd.R k34 34 w' w.heap.size (fun _ => True) v102 x3_1) ∧ Aside0 (Below w.heap.size w w'))
   case atStart => exact ⟨(y101), (0), qz0_, H', ⟨Nat.le_refl _⟩, ⟨qz10_⟩, ⟨qz3_⟩⟩
   case round =>
    clear H'
    try clear c2
    try clear c2b0
    try clear c2b1
    try clear p2
    try clear c3
    try clear c3b0
    try clear c3b1
    obtain ⟨x3_1, x4_1, rfl, HA, HK1, HO_3, HB⟩ := hrel
    cases gk with
    | zero => exact absurd HA.out (by simp [laws_toExtS.l0])
    | succ k1 =>
     have H := HA.out
     clear HA
     simp only [laws_toExtS.l0] at H
     by_cases c6 : x4_1 < (l0.length : Int)
     ·
      rw [if_pos c6] at H
      have c6b0 : decide (x4_1 < (l0.length : Int)) = true := decide_eq_true c6
      clear c6
      by_cases c7 : 0 ≤ x4_1
      ·
       rw [if_pos c7] at H
       have c7b0 : decide (0 ≤ x4_1) = true := decide_eq_true c7
       clear c7
       replace H := Option.bind_eq_some_iff.mp H
       obtain ⟨⟨t105, t106⟩, A80, H⟩ := H
       replace H : (if x4_1 < (x3_1.length : Int) then (laws_toExtS.l0 k1 l0 (x3_1.set (x4_1 : Int).toNat (⟨t105, t106⟩ : S34)) (wrap64 (x4_1 + 1))) else (none)) = some r := H
       have A8 := am_ A80
       clear A80
       by_cases c9 : x4_1 < (x3_1.length : Int)
       ·
        rw [if_pos c9] at H
        have c9b0 : decide (x4_1 < (x3_1.length : Int)) = true := decide_eq_true c9
        clear c9
        obtain ⟨y107, hy107⟩ : ∃ y_ : List (S34), y_ = (x3_1.set (x4_1 : Int).toNat (⟨t105, t106⟩ : S34)) := ⟨_, rfl⟩
        replace H : (laws_toExtS.l0 k1 l0 y107 (wrap64 (x4_1 + 1))) = some r := by first | (rw [hy107]; with_reducible exact H) | (have H2_ := (Option.bind_some _ _).symm.trans H; rw [hy107]; with_reducible exact H2_) | (have H2_ := (Option.bind_some _ _).symm.trans H; with_reducible exact H2_) | with_reducible exact H | (rw [hy107]; exact H) | exact H
        have Ny107 := am_ hy107
        clear hy107
        have H' := am_ H
        clear H
        have p104 : 0 ≤ (x4_1 : Int) := of_decide_eq_true qz6_
        have q104 : x4_1 < (l0.length : Int) := of_decide_eq_true qz6_
        obtain ⟨ad104, e104, hx104_0, hx104_1⟩ := at_T56 HR0.out x4_1 p104 q104
        cases e104
        replace hx104_0 := (HB.out.cell (World.block_lt_of_cell? w _ hx104_0)).trans hx104_0
        replace hx104_1 := (HB.out.cell (World.block_lt_of_cell? w _ hx104_1)).trans hx104_1
        replace p104 := eq_true p104
        replace q104 := eq_true q104
        go_wp2_with (first | ((with_reducible refine gate_callee (f := 27) rfl ?_); refine goesL_ (some 20) rfl rfl Try.func27 (by kernel_rfl) rfl #[.agg #[.int .i64 ((rd_T56 l0 x4_1).f0), .int .i64 ((rd_T56 l0 x4_1).f1)]] rfl qz2_ ?_; (with_reducible refine (laws_toExt.calls ((rd_T56 l0 x4_1).f0) ((rd_T56 l0 x4_1).f1) t105 t106 _ A8.out).mono ?_); rintro e w11 ⟨rfl, hb⟩; refine ⟨_, rfl, ?_⟩; have n0_ := am_ (Kd.R_below qz9_ hb); have n1_ := am_ (below_step qz3_ hb); clear HO_3; clear HB; have HO_3 := n0_; have HB := n1_; clear n0_ n1_; (try clear hb); (try clear hb2); (try clear hk); (try clear hi); have p10 : 0 ≤ (x4_1 : Int) := of_decide_eq_true qz6_; have q10 : (x4_1 : Int) < ((x3_1.length : Int) : Int) := of_decide_eq_true qz6_; obtain ⟨go10, co10, eo10, gb10, gl10, cl10, HG10⟩ := Kd.R_form HO_3.out (by omega); (first | cases eo10 | (injection eo10 with ea_ en_ ec_; (first | subst ea_ | (injection ea_ with ea_; subst ea_)); subst ec_; clear en_)); have GB10 := am_ gb10; have GG10 := am_ HG10; clear gb10 gl10 HG10; obtain ⟨ce10, hcl10, hM10, hcc10, hfr10⟩ := Kd.R_elem HO_3.out z34 (x4_1 : Int) p10 q10; obtain rfl := k34_openM hM10; have hx10_0 : w11.cell? ⟨go10, (x4_1 : Int).toNat * 2, none⟩ = some (.int .i64 ((rd_T34 x3_1 x4_1).f0)) := hcc10 0 _ rfl; have hx10_1 : w11.cell? ⟨go10, (x4_1 : Int).toNat * 2 + 1, none⟩ = some (.int .i64 ((rd_T34 x3_1 x4_1).f1)) := hcc10 1 _ rfl; have hf10_0 : w11.frozen? ⟨go10, (x4_1 : Int).toNat * 2, none⟩ = false := hfr10 0; have hf10_1 : w11.frozen? ⟨go10, (x4_1 : Int).toNat * 2 + 1, none⟩ = false := hfr10 1; (try clear hcl10); (try clear hcc10); (try clear hfr10); (try clear hM10); replace p10 := eq_true p10; replace q10 := eq_true q10; have HX12 := am_ (show Kd.R k34 34 w11 w.heap.size (fun _ => True) (.slice (some ⟨go10, 0, none⟩) x3_1.length co10) x3_1 from qz9_); obtain ⟨ce12, hcl12, hM12, hcc12, hfr12⟩ := Kd.R_elem HX12.out z34 (x4_1 : Int) (of_decide_eq_true qz6_) (by have h_ : (x4_1 : Int) < ((x3_1.length : Int) : Int) := of_decide_eq_true qz6_; first | exact h_ | (have e_ := (Kd.R_reads' HO_3.out).1; omega) | simpa using h_); obtain rfl := k34_openM hM12; have HP12 := Kd.R_seg HX12.out (x4_1 : Int) (of_decide_eq_true qz6_) (by have h_ : (x4_1 : Int) < ((x3_1.length : Int) : Int) := of_decide_eq_true qz6_; first | exact h_ | (have e_ := (Kd.R_reads' HO_3.out).1; omega) | simpa using h_) (seg := [.int .i64 t105, .int .i64 t106]) (j := 0) hcl12 hcc12 (show 2 ≤ 2 from by decide) (x' := (⟨t105, t106⟩ : S34)) (k34_mkM _ _ _ (⟨t105, t106⟩ : S34) ) (fun _ hk => hk); have hx12_0 := hcc12 0 _ rfl; (try simp only [show (k34).sz = 2 from rfl, Nat.mul_one, Nat.add_zero] at hx12_0); have hf12_0 := hfr12 0; (try simp only [show (k34).sz = 2 from rfl, Nat.mul_one, Nat.add_zero] at hf12_0); have hx12_1 := hcc12 1 _ rfl; (try simp only [show (k34).sz = 2 from rfl, Nat.mul_one, Nat.add_zero] at hx12_1); have hf12_1 := hfr12 1; (try simp only [show (k34).sz = 2 from rfl, Nat.mul_one, Nat.add_zero] at hf12_1); (try clear hcl12); (try clear hcc12); (try clear hfr12); (try clear hM12)) | ((with_reducible refine gate_store (t := 34) (p := 21) rfl ?_); refine store_event (t := 34) (p := 21) (v := ?vo_w13) (w1 := ((w11.setCell ⟨go10, (x4_1 : Int).toNat * 2, none⟩ (.int .i64 t105)).setCell ⟨go10, (x4_1 : Int).toNat * 2 + 1, none⟩ (.int .i64 t106))) ?hg ?ho ?hn ?hr ?_; (case ho => rfl); (case hg => rfl); (case hn => rfl); (case hr => first | (go_simp; done) | (go_simp; rfl)); intro w13 hw; have hg : w11.grownBy w13 (some go10) := (by rw [hw]; exact HP12.2); have hp_ : Kd.R k34 34 w13 w.heap.size (fun _ => True) (.slice (some ⟨go10, 0, none⟩) x3_1.length co10) y107 := (by rw [hw, Ny107.out]; exact HP12.1); clear HP12; have n0_ := am_ (hp_); have n1_ := am_ ((by rw [hw]; exact below_set (below_set (HB.out) GB10.out) GB10.out : Below w.heap.size w w13)); clear HO_3; clear HB; have HO_3 := n0_; have HB := n1_; clear n0_ n1_; clear hg hw hp_))
        go_roundg k1
        case measure => have := HK1.out; omega
        case rel => exact ⟨(y107), (wrap64 (x4_1 + 1)), qz0_, H', ⟨(by have := HK1.out; omega)⟩, ⟨qz9_⟩, ⟨qz3_⟩⟩
       ·
        rw [if_neg c9] at H
        exact absurd H (by simp)
      ·
       rw [if_neg c7] at H
       exact absurd H (by simp)
     ·
      rw [if_neg c6] at H
      have c6b0 : decide (x4_1 < (l0.length : Int)) = false := decide_eq_false c6
      clear c6
      obtain rfl := Option.some.inj H
      go_wp2
      go_ret
      exact ⟨_, qz4_, qz9_, qz3_⟩
  ·
   rw [if_neg c3] at H
   exact absurd H (by simp)
 ·
  rw [if_neg c2] at H
  exact absurd H (by simp)

def impl_in.f (a0 : Int) (a1 : Int) (a2 : Int) : Option (Bool) := if a1 ≤ a0 then (some (decide (a0 ≤ a2))) else (some false)
set_option maxHeartbeats 8000000 in
set_option maxRecDepth 100000 in
theorem impl_in.calls (a0 : Int) (a1 : Int) (a2 : Int) (r : Bool) (w : World) (h : impl_in.f a0 a1 a2 = some r) :
  Calls Try.prog 44 #[.int .i64 a0, .int .i64 a1, .int .i64 a2] w fun e w' => e = .returned (.bool r) ∧ Drawn0 w w' := by
 have H : (if a1 ≤ a0 then (some (decide (a0 ≤ a2))) else (some false)) = some r := h
 clear h
 by_cases c4 : a1 ≤ a0
 ·
  rw [if_pos c4] at H
  have c4b0 : decide (a1 ≤ a0) = true := decide_eq_true c4
  clear c4
  obtain rfl := Option.some.inj H
  go_enter Try.func44, Try.ntmps44
  go_wp2
  go_ret
  exact ⟨qz0_, qz1_⟩
 ·
  rw [if_neg c4] at H
  have c4b0 : decide (a1 ≤ a0) = false := decide_eq_false c4
  clear c4
  obtain rfl := Option.some.inj H
  go_enter Try.func44, Try.ntmps44
  go_wp2
  go_ret
  exact ⟨qz0_, qz1_⟩

def impl_FieldOK.f (a0 : Int) : Option (Bool) := (impl_in.f a0 0 2130706432).bind fun t101 => (some t101)
set_option maxHeartbeats 8000000 in
set_option maxRecDepth 100000 in
theorem impl_FieldOK.calls (a0 : Int) (r : Bool) (w : World) (h : impl_FieldOK.f a0 = some r) :
  Calls Try.prog 86 #[.int .i64 a0] w fun e w' => e = .returned (.bool r) ∧ Drawn0 w w' := by
 have H : ((impl_in.f a0 0 2130706432).bind fun t101 => (some t101)) = some r := h
 clear h
 replace H := Option.bind_eq_some_iff.mp H
 obtain ⟨t101, A20, H⟩ := H
 replace H : (some t101) = some r := H
 have A2 := am_ A20
 clear A20
 obtain rfl := Option.some.inj H
 go_enter Try.func86, Try.ntmps86
 go_wp2_with (first | ((with_reducible refine gate_callee (f := 44) rfl ?_); refine goesL_ (some 4) rfl rfl Try.func44 (by kernel_rfl) rfl #[.int .i64 a0, .int .i64 0, .int .i64 2130706432] rfl qz2_ ?_; (with_reducible refine (impl_in.calls a0 0 2130706432 t101 _ A2.out).mono ?_); rintro e w' ⟨rfl, ⟨nd, rfl⟩⟩; refine ⟨_, rfl, ?_⟩))
 go_ret
 exact ⟨qz0_, qz1_⟩

def impl_ExtOK.f (a0_0 : Int) (a0_1 : Int) : Option (Bool) := (impl_FieldOK.f a0_0).bind fun t102 => (if t102 = true then ((impl_FieldOK.f a0_1).bind fun t103 => (some t103)) else (some false))
set_option maxHeartbeats 8000000 in
set_option maxRecDepth 100000 in
theorem impl_ExtOK.calls (a0_0 : Int) (a0_1 : Int) (r : Bool) (w : World) (h : impl_ExtOK.f a0_0 a0_1 = some r) :
  Calls Try.prog 43 #[.agg #[.int .i64 a0_0, .int .i64 a0_1]] w fun e w' => e = .returned (.bool r) ∧ Below w.heap.size w w' := by
 have hu34 := Try.underlying34
 have HB := am_ (Below.refl w.heap.size w)
 have H : ((impl_FieldOK.f a0_0).bind fun t102 => (if t102 = true then ((impl_FieldOK.f a0_1).bind fun t103 => (some t103)) else (some false))) = some r := h
 clear h
 replace H := Option.bind_eq_some_iff.mp H
 obtain ⟨t102, A20, H⟩ := H
 replace H : (if t102 = true then ((impl_FieldOK.f a0_1).bind fun t103 => (some t103)) else (some false)) = some r := H
 have A2 := am_ A20
 clear A20
 by_cases c3 : t102 = true
 ·
  subst c3
  have H1 : ((impl_FieldOK.f a0_1).bind fun t103 => (some t103)) = some r := by rw [if_pos rfl] at H; exact H
  clear H
  have H := H1
  clear H1
  replace H := Option.bind_eq_some_iff.mp H
  obtain ⟨t103, A40, H⟩ := H
  replace H : (some t103) = some r := H
  have A4 := am_ A40
  clear A40
  obtain rfl := Option.some.inj H
  go_enter Try.func43, Try.ntmps43
  go_wp2_with (first | ((with_reducible refine gate_dst (N := 1) rfl ?_); refine box_event ?hg (N := 1) ?hd (cs := #[.int .i64 a0_0, .int .i64 a0_1]) (t := 34) ?hr ?_; (case hd => rfl); (case hg => rfl); (case hr => first | (go_simp; done) | (go_simp; rfl)); intro gb101 hg w5 hbox hb; have n0_ := am_ (below_step qz3_ hb); have n1_ := am_ (hbox); have n2_ := am_ ((by rw [hg]; exact (below_size qz3_) : w.heap.size ≤ gb101)); have n3_ := am_ ((by rw [hg]; exact (below_size qz3_) : w.heap.size ≤ gb101)); clear HB; have HB := n0_; have BK101 := n1_; have GW101 := n2_; have GE101 := n3_; clear n0_ n1_ n2_ n3_; clear hb hbox hg; have hcz6_0 : w5.cell? ⟨gb101, 0, none⟩ = some (.int .i64 a0_0) := (blk_cell BK101.out 0).trans rfl; have hcz6_1 : w5.cell? ⟨gb101, 1, none⟩ = some (.int .i64 a0_1) := (blk_cell BK101.out 1).trans rfl; have hfz6_0 := blk_frozen BK101.out 0; have hfz6_1 := blk_frozen BK101.out 1) | ((with_reducible refine gate_callee (f := 86) rfl ?_); refine goesL_ (some 5) rfl rfl Try.func86 (by kernel_rfl) rfl #[.int .i64 a0_0] rfl qz2_ ?_; (with_reducible refine (impl_FieldOK.calls a0_0 true _ A2.out).mono ?_); rintro e w' ⟨rfl, ⟨nd, rfl⟩⟩; refine ⟨_, rfl, ?_⟩) | (go_at_call 86; (with_reducible refine (impl_FieldOK.calls a0_1 t103 _ A4.out).mono ?_); rintro e w' ⟨rfl, ⟨nd, rfl⟩⟩))
  go_ret
  exact ⟨qz4_, qz5_⟩
 ·
  replace c3 := Bool.eq_false_iff.mpr c3
  subst c3
  have H1 : (some false) = some r := by rw [if_neg (show ¬ (false = true) by decide)] at H; exact H
  clear H
  have H := H1
  clear H1
  obtain rfl := Option.some.inj H
  go_enter Try.func43, Try.ntmps43
  go_wp2_with (first | ((with_reducible refine gate_dst (N := 1) rfl ?_); refine box_event ?hg (N := 1) ?hd (cs := #[.int .i64 a0_0, .int .i64 a0_1]) (t := 34) ?hr ?_; (case hd => rfl); (case hg => rfl); (case hr => first | (go_simp; done) | (go_simp; rfl)); intro gb101 hg w7 hbox hb; have n0_ := am_ (below_step qz3_ hb); have n1_ := am_ (hbox); have n2_ := am_ ((by rw [hg]; exact (below_size qz3_) : w.heap.size ≤ gb101)); have n3_ := am_ ((by rw [hg]; exact (below_size qz3_) : w.heap.size ≤ gb101)); clear HB; have HB := n0_; have BK101 := n1_; have GW101 := n2_; have GE101 := n3_; clear n0_ n1_ n2_ n3_; clear hb hbox hg; have hcz8_0 : w7.cell? ⟨gb101, 0, none⟩ = some (.int .i64 a0_0) := (blk_cell BK101.out 0).trans rfl; have hcz8_1 : w7.cell? ⟨gb101, 1, none⟩ = some (.int .i64 a0_1) := (blk_cell BK101.out 1).trans rfl; have hfz8_0 := blk_frozen BK101.out 0; have hfz8_1 := blk_frozen BK101.out 1) | ((with_reducible refine gate_callee (f := 86) rfl ?_); refine goesL_ (some 5) rfl rfl Try.func86 (by kernel_rfl) rfl #[.int .i64 a0_0] rfl qz2_ ?_; (with_reducible refine (impl_FieldOK.calls a0_0 false _ A2.out).mono ?_); rintro e w' ⟨rfl, ⟨nd, rfl⟩⟩; refine ⟨_, rfl, ?_⟩))
  go_ret
  exact ⟨qz4_, qz5_⟩

def impl_are_Ext_ExtOK.p (x : S34) : Bool := (impl_ExtOK.f (x).f0 (x).f1).getD false
theorem impl_are_Ext_ExtOK.p_some (x : S34) : impl_ExtOK.f (x).f0 (x).f1 = some (impl_are_Ext_ExtOK.p x) := by
 unfold impl_are_Ext_ExtOK.p
 have : ∃ b, impl_ExtOK.f (x).f0 (x).f1 = some b := by
  simp only [impl_ExtOK.f, impl_FieldOK.f, impl_in.f]
  repeat' (first | exact ⟨_, rfl⟩ | (split <;> try exact ⟨_, rfl⟩) | (simp only [Option.bind_some]))
 obtain ⟨b, hb⟩ := this
 rw [hb]; rfl
set_option maxHeartbeats 800000 in
theorem impl_are_Ext_ExtOK.clo (x : S34) (r : Bool) (hr : impl_ExtOK.f (x).f0 (x).f1 = some r) (g : Nat) (w : World) (hg : w.cell? ⟨g, 0, none⟩ = some (.func (.func 43) #[] #[])) :
  Calls Try.prog 85 #[.agg #[.int .i64 ((x).f0), .int .i64 ((x).f1)], .pointer (some ⟨g, 0, none⟩)] w fun e w' => e = .returned (.bool (!r)) ∧ Below w.heap.size w w' := by
 have hlt : g < w.heap.size := World.block_lt_of_cell? w _ hg
 have HB := am_ (Below.refl w.heap.size w)
 go_enter Try.func85, Try.ntmps85
 go_wp2_with (go_at_call 43; (refine (impl_ExtOK.calls (x).f0 (x).f1 r _ hr).mono ?_); rintro e w' ⟨rfl, hb⟩)
 go_ret
 exact ⟨(by first | rfl | simp), (by repeat (first | (with_reducible first | exact HB.out | apply below_alloc | apply pw_below_drewN | apply below_drew1) | exact HB.out | refine below_step ?_ hb))⟩

def impl_are_Ext_ExtOK.Idx (l : List (S34)) (w : World) (e : Ending) (w' : World) : Prop := ∃ j : Int, e = .returned (.int .i64 j) ∧ (decide (0 ≤ j) = !(l.all impl_are_Ext_ExtOK.p)) ∧ Below w.heap.size w w'
theorem impl_are_Ext_ExtOK.all_snoc (l : List (S34)) (k : Nat) (hk : k < l.length) (h : (l.take k).all impl_are_Ext_ExtOK.p = true) (h2 : impl_are_Ext_ExtOK.p (l.getD k z34) = true) : (l.take (k + 1)).all impl_are_Ext_ExtOK.p = true := by
 rw [List.take_succ_eq_append_getElem hk, List.all_append, h]
 simp [List.getD_eq_getElem?_getD, hk] at h2
 simp [h2]
theorem impl_are_Ext_ExtOK.all_not (l : List (S34)) (k : Nat) (hk : k < l.length) (h2 : impl_are_Ext_ExtOK.p (l.getD k z34) = false) : l.all impl_are_Ext_ExtOK.p = false := by
 rw [List.all_eq_false]
 simp [List.getD_eq_getElem?_getD, hk] at h2
 exact ⟨l[k], List.getElem_mem hk, (by simp [h2])⟩

set_option maxHeartbeats 800000 in
theorem impl_are_Ext_ExtOK.idx (A0 : Option Addr) (c0 : Nat) (l0 : List (S34)) (g : Nat) (w : World) (hr0 : Kd.C k34 w A0 l0.length l0) (hc0 : l0.length ≤ c0) (hm : l0.length ≤ 9223372036854775807) (hg : w.cell? ⟨g, 0, none⟩ = some (.func (.func 43) #[] #[])) :
  Calls Try.prog 127 #[.slice A0 l0.length c0, .func (.func 85) #[] #[.pointer (some ⟨g, 0, none⟩)]] w (impl_are_Ext_ExtOK.Idx l0 w) := by
 have HR0 := am_ hr0
 have HC0 := am_ hc0
 have HG := am_ hg
 clear hr0 hc0 hg
 have HB := am_ (Below.refl w.heap.size w)
 go_enter Try.func127, Try.ntmps127
 go_wp2
 go_loopg [8] l0.length (fun kq v8 w' => ∃ k : Nat, k + kq = l0.length ∧ v8 = .int .i64 k ∧ Aside0 ((l0.take k).all impl_are_Ext_ExtOK.p = true) ∧ Aside0 (Below w.heap.size w w'))
 case atStart => exact ⟨0, by omega, by first | rfl | simp, ⟨rfl⟩, ⟨qz3_⟩⟩
 case round =>
  obtain ⟨k, hk, rfl, HA, HB⟩ := hrel
  cases gk with
  | zero =>
   have hge : decide ((k : Int) < (l0.length : Int)) = false := decide_eq_false (by omega)
   have hge2 : decide (k < l0.length) = false := decide_eq_false (by omega)
   have hkk : l0.take k = l0 := List.take_of_length_le (by omega)
   have HA2 := am_ (hkk ▸ HA.out)
   clear HA hkk
   go_wp2
   go_ret
   refine ⟨-1, rfl, ?_, qz3_⟩
   rw [HA2.out]
   rfl
  | succ k1 =>
   have hlt : decide ((k : Int) < (l0.length : Int)) = true := decide_eq_true (by omega)
   have hlt2 : decide (k < l0.length) = true := decide_eq_true (by omega)
   have p_ : 0 ≤ (k : Int) := by omega
   have q_ : (k : Int) < (l0.length : Int) := by omega
   obtain ⟨ad, e_, hx_0, hx_1⟩ := at_T34 HR0.out k p_ q_
   cases e_
   replace hx_0 := (HB.out.cell (World.block_lt_of_cell? w _ hx_0)).trans hx_0
   replace hx_1 := (HB.out.cell (World.block_lt_of_cell? w _ hx_1)).trans hx_1
   simp only [Int.toNat_natCast] at hx_0 hx_1
   have hgc := am_ ((HB.out.cell (World.block_lt_of_cell? w _ HG.out)).trans HG.out)
   have hkl : k < l0.length := by omega
   have hrd : (rd_T34 l0 (k : Int)) = l0.getD k z34 := rfl
   by_cases hp : impl_are_Ext_ExtOK.p (rd_T34 l0 (k : Int)) = true
   ·
    have hs := am_ ((impl_are_Ext_ExtOK.p_some (rd_T34 l0 (k : Int))).trans (congrArg some hp))
    have HA2 := am_ (impl_are_Ext_ExtOK.all_snoc l0 k hkl HA.out (hrd ▸ hp))
    clear hp HA hrd
    go_wp2_with (go_at_call 85; (refine (impl_are_Ext_ExtOK.clo (rd_T34 l0 (k : Int)) true hs.out g _ hgc.out).mono ?_); rintro e w' ⟨rfl, hb⟩; have n0_ := am_ (below_step qz3_ hb); clear HB; have HB := n0_; clear n0_; clear hb)
    go_roundg k1
    case measure => omega
    case rel => exact ⟨k + 1, by omega, by first | rfl | go_num, HA2, ⟨qz3_⟩⟩
   ·
    replace hp := Bool.eq_false_iff.mpr hp
    have hs := am_ ((impl_are_Ext_ExtOK.p_some (rd_T34 l0 (k : Int))).trans (congrArg some hp))
    have HA2 := am_ (impl_are_Ext_ExtOK.all_not l0 k hkl (hrd ▸ hp))
    clear hp HA hrd
    go_wp2_with (go_at_call 85; (refine (impl_are_Ext_ExtOK.clo (rd_T34 l0 (k : Int)) false hs.out g _ hgc.out).mono ?_); rintro e w' ⟨rfl, hb⟩; have n0_ := am_ (below_step qz3_ hb); clear HB; have HB := n0_; clear n0_; clear hb)
    go_ret
    exact ⟨(k : Int), rfl, (by rw [HA2.out]; simp), qz3_⟩
set_option maxHeartbeats 800000 in
theorem impl_are_Ext_ExtOK.con (A0 : Option Addr) (c0 : Nat) (l0 : List (S34)) (g : Nat) (w : World) (hr0 : Kd.C k34 w A0 l0.length l0) (hc0 : l0.length ≤ c0) (hm : l0.length ≤ 9223372036854775807) (hg : w.cell? ⟨g, 0, none⟩ = some (.func (.func 43) #[] #[])) :
  Calls Try.prog 84 #[.slice A0 l0.length c0, .func (.func 85) #[] #[.pointer (some ⟨g, 0, none⟩)]] w fun e w' => e = .returned (.bool (!(l0.all impl_are_Ext_ExtOK.p))) ∧ Below w.heap.size w w' := by
 have HR0 := am_ hr0
 have HC0 := am_ hc0
 have HG := am_ hg
 clear hr0 hc0 hg
 go_enter Try.func84, Try.ntmps84
 go_wp2_with (go_at_call 127; (refine (impl_are_Ext_ExtOK.idx A0 c0 l0 g _ HR0.out HC0.out hm HG.out).mono ?_); rintro e w' ⟨j, rfl, hj, hb⟩; have HJ := am_ hj; clear hj)
 go_ret
 exact ⟨(by rw [← HJ.out]; rfl), (by repeat (first | exact hb | exact Below.refl _ _ | apply below_alloc | apply pw_below_drewN | apply below_drew1))⟩
def impl_are_Ext_ExtOK.f (l1 : List (S34)) : Option (Bool) := some (l1.all impl_are_Ext_ExtOK.p)
set_option maxHeartbeats 800000 in
theorem impl_are_Ext_ExtOK.calls (A1 : Option Addr) (c1 : Nat) (l1 : List (S34)) (r : Bool) (w : World) (hr1 : Kd.C k34 w A1 l1.length l1) (hc1 : l1.length ≤ c1) (h : impl_are_Ext_ExtOK.f l1 = some r) :
  Calls Try.prog 42 #[(Value.func (.func 43) #[] #[]), .slice A1 l1.length c1] w fun e w' => e = .returned (.bool r) ∧ Below w.heap.size w w' := by
 unfold impl_are_Ext_ExtOK.f at h
 have hm : l1.length ≤ 9223372036854775807 := hr1.2.1
 ·
  obtain rfl := Option.some.inj h
  have HR1 := am_ hr1
  have HC1 := am_ hc1
  clear hr1 hc1 h
  have HB := am_ (Below.refl w.heap.size w)
  go_enter Try.func42, Try.ntmps42
  go_wp2_with (go_at_call 84; (refine (impl_are_Ext_ExtOK.con A1 c1 l1 w.heap.size _ (Kd.C_below HR1.out qz3_) HC1.out hm (by first | rfl | simp)).mono ?_); rintro e w' ⟨rfl, hb⟩; have n0_ := am_ (below_step qz3_ hb); clear HB; have HB := n0_; clear n0_; clear hb)
  go_ret
  exact ⟨(by first | rfl | simp), qz3_⟩

end Go.Proofs.Ytgookagndlfehaa.PT
end
