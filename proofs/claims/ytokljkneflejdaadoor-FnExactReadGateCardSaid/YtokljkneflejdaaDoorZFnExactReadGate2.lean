/- Part 2 of the proof of FnExactReadGate: what functions compute, shown step by step, and what that says (the claim's last text states the law). -/
import Derived.Test.YtokljkneflejdaaDoorProg
import Derived.Test.YtokljkneflejdaaDoorVWords
import Derived.Test.YtokljkneflejdaaDoorVMore
import Derived.Test.YtokljkneflejdaaDoorVLast
import Derived.Test.YtokljkneflejdaaDoorVTab
import Derived.Test.YtokljkneflejdaaDoorVQPut
import Derived.Test.YtokljkneflejdaaDoorVApart
import Derived.Test.YtokljkneflejdaaDoorVArr
import Derived.Test.YtokljkneflejdaaDoorVZeros
import Derived.Test.YtokljkneflejdaaDoorVFoot
import Derived.Test.YtokljkneflejdaaDoorVKept
import Derived.Test.YtokljkneflejdaaDoorVShare
import Derived.Test.YtokljkneflejdaaDoorVN
import Derived.Test.YtokljkneflejdaaDoorVFootNe
import Derived.Test.YtokljkneflejdaaDoorVRepsOne
import Derived.Test.YtokljkneflejdaaDoorVInv
import Derived.Test.YtokljkneflejdaaDoorVInvWords
import Derived.Test.YtokljkneflejdaaDoorVGuard
import Derived.Test.YtokljkneflejdaaDoorVNEv
import Derived.Test.YtokljkneflejdaaDoorCards
import Derived.Test.YtokljkneflejdaaDoorTie
import Derived.JoinedOf
import Derived.WalkKit
import Derived.ProofKit
import Derived.OpenShut
import Derived.ShutString
import Derived.ChangeOld
import Derived.Below
import Derived.SizedLaws
import Derived.Deep.Slices
import Derived.ChangeArms
import Derived.Deep.Draws
import Derived.Deep.AppendLies
import Derived.Maps.AppendAt
import Derived.OwnWalk
import Derived.Laws.BytesArg
import Derived.Laws.MakeOwn
import Derived.Laws.OwnMore
import Derived.Deep.OwnRows
import Derived.Tactics
import Derived.Lib.ConvBytes
import Derived.Laws.Slices
import Derived.KernelRfl
import Derived.RowKit3
import Derived.Deep.LoopGhost
import Derived.Deep.QuietTactic
import Derived.BigQuiet
import Derived.WideLaws
import Derived.Deep.DeepCutAuto
import Derived.Deep.CutBlock
import Derived.Deep.RegionHeld3
import Derived.Laws.Rows
import Derived.Lib.AppendStr
import Derived.ArgAppend
import Derived.Laws.IdiomCopy
import Derived.OrdersHeld
import Derived.Laws.BitsLemmas
import Derived.RowKit
import Derived.Deep.DeepMust
import Derived.Laws.CopyOwn
import Derived.Shelf.Utf8.RuneCount
import Derived.Shelf.Strconv.Atoi
import Derived.Shelf.Strconv.Itoa0
import Derived.Shelf.Strconv.Itoa1
import Derived.Shelf.LaysM
import Derived.Shelf.Strconv.Itoa2
import Derived.Shelf.Strconv.Itoa3
import Derived.Shelf.Strconv.AtoiErrFast
import Derived.Shelf.Strconv.ParseIntEmpty
import Derived.Shelf.Strconv.AtoiFail
import Derived.Shelf.Strconv.Clone
import Derived.Shelf.Strconv.SyntaxError
import Derived.Shelf.LaysC
import Derived.Shelf.Strconv.ToError
import Derived.Shelf.Strconv.Lower
import Derived.Shelf.Strconv.ParseUint10
import Derived.Shelf.Strconv.ParseUint10Empty
import Derived.Shelf.Strconv.ParseUint10Any
import Derived.Shelf.Strconv.ParseInt10
import Derived.Shelf.Strconv.AtoiLong
import Derived.Shelf.Strconv.AtoiInnerAll
import Derived.Shelf.Strconv.RangeError
import Derived.Shelf.Strconv.ToErrorRange
import Derived.Shelf.Strconv.AtoiAll
import Derived.Shelf.Strconv.ErrVarAll
import Derived.Shelf.Strings.Search1
import Derived.Shelf.Strings.Search2
import Derived.Shelf.Strings.Search3
import Derived.Shelf.Strings.Count
import Derived.Shelf.Strings.Shaped
import Derived.Shelf.Strings.Prefix
import Derived.Shelf.Strings.Split
import Derived.Shelf.Strings.SplitShaped
import Derived.Shelf.Unicode.Decode
import Derived.Shelf.Strings.RuneCount
import Derived.Shelf.Strings.Explode
import Derived.Shelf.Unicode.DecodeSlow
import Derived.Shelf.Unicode.DecodeAny
import Derived.Shelf.Slices.Turned
import Derived.Ground.SlgfProg
import Derived.Shelf.SlicesE.IndexFunc
import Derived.Shelf.SlicesE.DeleteFunc
import Derived.Lib.SplitLaws
import Derived.Lib.AtoiTie
import Derived.Lib.ItoaMem
import Derived.Lib.ItoaLen
import Derived.Lib.Strings
import Derived.Lib.LaidTab
import Derived.Lib.AppendIntMem
import Derived.Lib.OwnBridge
import Derived.Deep.DeepHandedRow
import Derived.Stop.LaidErr
import Derived.Shelf.Vars
import Derived.Test.YtokljkneflejdaaDoorZFnExactReadGate1
section
namespace Go.Proofs.YtokljkneflejdaaDoor.PT
open Go.RowKit Go.Proofs.YtokljkneflejdaaDoorW.PrintWords Go.Proofs.YtokljkneflejdaaDoorW.PrintLast Go.Proofs.YtokljkneflejdaaDoorW.PrintMore
attribute [local go_sem] max2_int min2_int max_two min_two max_three min_three max_four min_four   -- for this text's walks alone
set_option linter.unusedVariables false
set_option linter.unusedSimpArgs false
def spec_ReadGate.f (k : Nat) (a0 : ByteArray) : Option (Int × Int × Int × Int × Int) := if (a0.size : Int) > 65536 then (some (0, 0, 0, 0, 2)) else ((spec_l11Read.f k a0).bind fun bt102 => (if bt102.2.2.2.2 = true then (some (bt102.1, bt102.2.1, bt102.2.2.1, bt102.2.2.2.1, 0)) else (some (0, 0, 0, 0, 3))))
theorem spec_ReadGate.mono : ∀ a0 k, LeO (spec_ReadGate.f k a0) (spec_ReadGate.f (k + 1) a0) := by
 intro a0 k
 unfold spec_ReadGate.f
 repeat' first
   | (with_reducible exact spec_l11Read.mono _ _)
   | (with_reducible exact LeO.refl _)
   | (with_reducible exact LeO.none _)
   | (with_reducible refine LeO.ite ?_ ?_)
   | (with_reducible refine LeO.bind ?_ (fun _ => ?_))
   | exact spec_l11Read.mono _ _
   | exact LeO.none _
   | refine LeO.ite ?_ ?_
   | refine LeO.bind ?_ (fun _ => ?_)
set_option maxHeartbeats 8000000 in
set_option maxRecDepth 100000 in
theorem spec_ReadGate.calls (k : Nat) (a0 : ByteArray) (r1 : Int) (r2 : Int) (r3 : Int) (r4 : Int) (r5 : Int) (w : World) (h : spec_ReadGate.f k a0 = some (r1, r2, r3, r4, r5)) :
  Calls Tryd.prog 9 #[.string a0] w fun e w' => e = .returned (.tuple #[.agg #[.int .i64 r1, .int .i64 r2, .int .i64 r3, .int .i64 r4], .int .i64 r5]) ∧ Below w.heap.size w w' := by
 have hu30 := Tryd.underlying30
 have HB := am_ (Below.refl w.heap.size w)
 have H : (if (a0.size : Int) > 65536 then (some (0, 0, 0, 0, 2)) else ((spec_l11Read.f k a0).bind fun bt102 => (if bt102.2.2.2.2 = true then (some (bt102.1, bt102.2.1, bt102.2.2.1, bt102.2.2.2.1, 0)) else (some (0, 0, 0, 0, 3))))) = some (r1, r2, r3, r4, r5) := h
 clear h
 by_cases c2 : (a0.size : Int) > 65536
 ·
  rw [if_pos c2] at H
  have c2b0 : decide (65536 < (a0.size : Int)) = true := decide_eq_true c2
  have c2b1 : decide (65536 < a0.size) = true := decide_eq_true (by omega)
  clear c2
  simp only [Option.some.injEq, Prod.mk.injEq] at H
  obtain ⟨rfl, rfl, rfl, rfl, rfl⟩ := H
  go_enter Tryd.func9, Tryd.ntmps9
  go_wp2_with (first | ((with_reducible refine gate_dst (N := 2) rfl ?_); refine box_event ?hg (N := 2) ?hd (cs := #[.int .i64 0, .int .i64 0, .int .i64 0, .int .i64 0]) (t := 30) ?hr ?_; (case hd => rfl); (case hg => rfl); (case hr => first | (go_simp; done) | (go_simp; rfl)); intro gb101 hg w3 hbox hb; have n0_ := am_ (below_step qz3_ hb); have n1_ := am_ (hbox); have n2_ := am_ ((by rw [hg]; exact (below_size qz3_) : w.heap.size ≤ gb101)); have n3_ := am_ ((by rw [hg]; exact (below_size qz3_) : w.heap.size ≤ gb101)); clear HB; have HB := n0_; have BK101 := n1_; have GW101 := n2_; have GE101 := n3_; clear n0_ n1_ n2_ n3_; clear hb hbox hg; have hcz4_0 : w3.cell? ⟨gb101, 0, none⟩ = some (.int .i64 0) := (blk_cell BK101.out 0).trans rfl; have hcz4_1 : w3.cell? ⟨gb101, 1, none⟩ = some (.int .i64 0) := (blk_cell BK101.out 1).trans rfl; have hcz4_2 : w3.cell? ⟨gb101, 2, none⟩ = some (.int .i64 0) := (blk_cell BK101.out 2).trans rfl; have hcz4_3 : w3.cell? ⟨gb101, 3, none⟩ = some (.int .i64 0) := (blk_cell BK101.out 3).trans rfl; have hfz4_0 := blk_frozen BK101.out 0; have hfz4_1 := blk_frozen BK101.out 1; have hfz4_2 := blk_frozen BK101.out 2; have hfz4_3 := blk_frozen BK101.out 3))
  refine bodyPost_ret (results_ct rfl _ _ gb101 30 #[.int .i64 0, .int .i64 0, .int .i64 0, .int .i64 0] (0, 0) _ rfl qz10_ Tryd.underlying30 rfl (by kernel_rfl)) rfl ?_
  exact ⟨qz4_, qz5_⟩
 ·
  rw [if_neg c2] at H
  have c2b0 : decide (65536 < (a0.size : Int)) = false := decide_eq_false c2
  have c2b1 : decide (65536 < a0.size) = false := decide_eq_false (by omega)
  clear c2
  replace H := Option.bind_eq_some_iff.mp H
  obtain ⟨⟨t102, t103, t104, t105, t106⟩, A50, H⟩ := H
  replace H : (if t106 = true then (some (t102, t103, t104, t105, 0)) else (some (0, 0, 0, 0, 3))) = some (r1, r2, r3, r4, r5) := H
  have A5 := am_ A50
  clear A50
  by_cases c6 : t106 = true
  ·
   subst c6
   have H1 : (some (t102, t103, t104, t105, 0)) = some (r1, r2, r3, r4, r5) := by rw [if_pos rfl] at H; exact H
   clear H
   have H := H1
   clear H1
   simp only [Option.some.injEq, Prod.mk.injEq] at H
   obtain ⟨rfl, rfl, rfl, rfl, rfl⟩ := H
   go_enter Tryd.func9, Tryd.ntmps9
   go_wp2_with (first | ((with_reducible refine gate_dst (N := 2) rfl ?_); refine box_event ?hg (N := 2) ?hd (cs := #[.int .i64 0, .int .i64 0, .int .i64 0, .int .i64 0]) (t := 30) ?hr ?_; (case hd => rfl); (case hg => rfl); (case hr => first | (go_simp; done) | (go_simp; rfl)); intro gb101 hg w7 hbox hb; have n0_ := am_ (below_step qz3_ hb); have n1_ := am_ (hbox); have n2_ := am_ ((by rw [hg]; exact (below_size qz3_) : w.heap.size ≤ gb101)); have n3_ := am_ ((by rw [hg]; exact (below_size qz3_) : w.heap.size ≤ gb101)); clear HB; have HB := n0_; have BK101 := n1_; have GW101 := n2_; have GE101 := n3_; clear n0_ n1_ n2_ n3_; clear hb hbox hg) | ((with_reducible refine gate_callee (f := 24) rfl ?_); refine goesL_ (some 12) rfl rfl Tryd.func24 (by kernel_rfl) rfl #[.string a0] rfl qz2_ ?_; (with_reducible refine (spec_l11Read.calls k a0 t102 t103 t104 t105 true _ A5.out).mono ?_); rintro e w8 ⟨rfl, hb⟩; refine ⟨_, rfl, ?_⟩; have n0_ := am_ (blk_below (g := gb101) (o := .cells #[.int .i64 0, .int .i64 0, .int .i64 0, .int .i64 0] 30 (0, 0)) qz7_ hb); have n1_ := am_ (below_step qz5_ hb); clear BK101; clear HB; have BK101 := n0_; have HB := n1_; clear n0_ n1_; (try clear hb); (try clear hb2); (try clear hk); (try clear hi)) | ((with_reducible refine gate_dst (N := 4) rfl ?_); refine box_event ?hg (N := 4) ?hd (cs := #[.int .i64 0, .int .i64 0, .int .i64 0, .int .i64 0]) (t := 30) ?hr ?_; (case hd => rfl); (case hg => rfl); (case hr => first | (go_simp; done) | (go_simp; rfl)); intro gb107 hg w9 hbox hb; have n0_ := am_ (blk_below (g := gb101) (o := .cells #[.int .i64 0, .int .i64 0, .int .i64 0, .int .i64 0] 30 (0, 0)) qz7_ hb); have n1_ := am_ (below_step qz5_ hb); have n2_ := am_ (hbox); have n3_ := am_ ((by rw [hg]; exact (below_size qz5_) : w.heap.size ≤ gb107)); have n4_ := am_ ((by rw [hg]; exact (below_size qz5_) : w.heap.size ≤ gb107)); have n5_ := am_ ((by rw [hg]; exact Nat.ne_of_lt (blk_lt (g := gb101) (o := .cells #[.int .i64 0, .int .i64 0, .int .i64 0, .int .i64 0] 30 (0, 0)) qz7_) : gb101 ≠ gb107)); have n6_ := am_ ((by rw [hg]; exact Nat.ne_of_gt (blk_lt (g := gb101) (o := .cells #[.int .i64 0, .int .i64 0, .int .i64 0, .int .i64 0] 30 (0, 0)) qz7_) : gb107 ≠ gb101)); clear BK101; clear HB; have BK101 := n0_; have HB := n1_; have BK107 := n2_; have GW107 := n3_; have GE107 := n4_; have NB101_107 := n5_; have NB107_101 := n6_; clear n0_ n1_ n2_ n3_ n4_ n5_ n6_; clear hb hbox hg; have hnb10 := NB107_101.out; have hnc10 := NB101_107.out; have hcz11_0 : w9.cell? ⟨gb107, 0, none⟩ = some (.int .i64 0) := (blk_cell BK107.out 0).trans rfl; have hcz11_1 : w9.cell? ⟨gb107, 1, none⟩ = some (.int .i64 0) := (blk_cell BK107.out 1).trans rfl; have hcz11_2 : w9.cell? ⟨gb107, 2, none⟩ = some (.int .i64 0) := (blk_cell BK107.out 2).trans rfl; have hcz11_3 : w9.cell? ⟨gb107, 3, none⟩ = some (.int .i64 0) := (blk_cell BK107.out 3).trans rfl; have hfz11_0 := blk_frozen BK107.out 0; have hfz11_1 := blk_frozen BK107.out 1; have hfz11_2 := blk_frozen BK107.out 2; have hfz11_3 := blk_frozen BK107.out 3; have hcz12_0 : w9.cell? ⟨gb101, 0, none⟩ = some (.int .i64 0) := (blk_cell BK101.out 0).trans rfl; have hcz12_1 : w9.cell? ⟨gb101, 1, none⟩ = some (.int .i64 0) := (blk_cell BK101.out 1).trans rfl; have hcz12_2 : w9.cell? ⟨gb101, 2, none⟩ = some (.int .i64 0) := (blk_cell BK101.out 2).trans rfl; have hcz12_3 : w9.cell? ⟨gb101, 3, none⟩ = some (.int .i64 0) := (blk_cell BK101.out 3).trans rfl; have hfz12_0 := blk_frozen BK101.out 0; have hfz12_1 := blk_frozen BK101.out 1; have hfz12_2 := blk_frozen BK101.out 2; have hfz12_3 := blk_frozen BK101.out 3))
   refine bodyPost_ret (results_ct rfl _ _ gb101 30 #[.int .i64 t102, .int .i64 t103, .int .i64 t104, .int .i64 t105] (0, 0) _ rfl (by (with_reducible repeat (first | refine blk_drewN ?_ _ | refine blk_drew ?_ | refine blk_alloc ?_ _)); refine blk_put (cs := #[.int .i64 t102, .int .i64 t103, .int .i64 t104, .int .i64 0]) ?_ 3 _ rfl; (with_reducible repeat (first | refine blk_drewN ?_ _ | refine blk_drew ?_ | refine blk_alloc ?_ _)); refine blk_put (cs := #[.int .i64 t102, .int .i64 t103, .int .i64 0, .int .i64 0]) ?_ 2 _ rfl; (with_reducible repeat (first | refine blk_drewN ?_ _ | refine blk_drew ?_ | refine blk_alloc ?_ _)); refine blk_put (cs := #[.int .i64 t102, .int .i64 0, .int .i64 0, .int .i64 0]) ?_ 1 _ rfl; (with_reducible repeat (first | refine blk_drewN ?_ _ | refine blk_drew ?_ | refine blk_alloc ?_ _)); refine blk_put (cs := #[.int .i64 0, .int .i64 0, .int .i64 0, .int .i64 0]) ?_ 0 _ rfl; (with_reducible repeat (first | refine blk_drewN ?_ _ | refine blk_drew ?_ | refine blk_alloc ?_ _)); refine blk_far ?_ NB101_107.out _; (with_reducible repeat (first | refine blk_drewN ?_ _ | refine blk_drew ?_ | refine blk_alloc ?_ _)); refine blk_far ?_ NB101_107.out _; (with_reducible repeat (first | refine blk_drewN ?_ _ | refine blk_drew ?_ | refine blk_alloc ?_ _)); refine blk_far ?_ NB101_107.out _; (with_reducible repeat (first | refine blk_drewN ?_ _ | refine blk_drew ?_ | refine blk_alloc ?_ _)); refine blk_far ?_ NB101_107.out _; (with_reducible repeat (first | refine blk_drewN ?_ _ | refine blk_drew ?_ | refine blk_alloc ?_ _)); exact BK101.out) Tryd.underlying30 rfl (by kernel_rfl)) rfl ?_
   exact ⟨qz4_, (by repeat (first | (with_reducible first | exact HB.out | apply below_alloc | apply pw_below_drewN | apply below_drew1 | refine below_set ?_ GE101.out | refine below_set ?_ GE107.out) | exact HB.out))⟩
  ·
   replace c6 := Bool.eq_false_iff.mpr c6
   subst c6
   have H1 : (some (0, 0, 0, 0, 3)) = some (r1, r2, r3, r4, r5) := by rw [if_neg (show ¬ (false = true) by decide)] at H; exact H
   clear H
   have H := H1
   clear H1
   simp only [Option.some.injEq, Prod.mk.injEq] at H
   obtain ⟨rfl, rfl, rfl, rfl, rfl⟩ := H
   go_enter Tryd.func9, Tryd.ntmps9
   go_wp2_with (first | ((with_reducible refine gate_dst (N := 2) rfl ?_); refine box_event ?hg (N := 2) ?hd (cs := #[.int .i64 0, .int .i64 0, .int .i64 0, .int .i64 0]) (t := 30) ?hr ?_; (case hd => rfl); (case hg => rfl); (case hr => first | (go_simp; done) | (go_simp; rfl)); intro gb101 hg w13 hbox hb; have n0_ := am_ (below_step qz3_ hb); have n1_ := am_ (hbox); have n2_ := am_ ((by rw [hg]; exact (below_size qz3_) : w.heap.size ≤ gb101)); have n3_ := am_ ((by rw [hg]; exact (below_size qz3_) : w.heap.size ≤ gb101)); clear HB; have HB := n0_; have BK101 := n1_; have GW101 := n2_; have GE101 := n3_; clear n0_ n1_ n2_ n3_; clear hb hbox hg) | ((with_reducible refine gate_callee (f := 24) rfl ?_); refine goesL_ (some 12) rfl rfl Tryd.func24 (by kernel_rfl) rfl #[.string a0] rfl qz2_ ?_; (with_reducible refine (spec_l11Read.calls k a0 t102 t103 t104 t105 false _ A5.out).mono ?_); rintro e w14 ⟨rfl, hb⟩; refine ⟨_, rfl, ?_⟩; have n0_ := am_ (blk_below (g := gb101) (o := .cells #[.int .i64 0, .int .i64 0, .int .i64 0, .int .i64 0] 30 (0, 0)) qz7_ hb); have n1_ := am_ (below_step qz5_ hb); clear BK101; clear HB; have BK101 := n0_; have HB := n1_; clear n0_ n1_; (try clear hb); (try clear hb2); (try clear hk); (try clear hi)) | ((with_reducible refine gate_dst (N := 4) rfl ?_); refine box_event ?hg (N := 4) ?hd (cs := #[.int .i64 0, .int .i64 0, .int .i64 0, .int .i64 0]) (t := 30) ?hr ?_; (case hd => rfl); (case hg => rfl); (case hr => first | (go_simp; done) | (go_simp; rfl)); intro gb107 hg w15 hbox hb; have n0_ := am_ (blk_below (g := gb101) (o := .cells #[.int .i64 0, .int .i64 0, .int .i64 0, .int .i64 0] 30 (0, 0)) qz7_ hb); have n1_ := am_ (below_step qz5_ hb); have n2_ := am_ (hbox); have n3_ := am_ ((by rw [hg]; exact (below_size qz5_) : w.heap.size ≤ gb107)); have n4_ := am_ ((by rw [hg]; exact (below_size qz5_) : w.heap.size ≤ gb107)); have n5_ := am_ ((by rw [hg]; exact Nat.ne_of_lt (blk_lt (g := gb101) (o := .cells #[.int .i64 0, .int .i64 0, .int .i64 0, .int .i64 0] 30 (0, 0)) qz7_) : gb101 ≠ gb107)); have n6_ := am_ ((by rw [hg]; exact Nat.ne_of_gt (blk_lt (g := gb101) (o := .cells #[.int .i64 0, .int .i64 0, .int .i64 0, .int .i64 0] 30 (0, 0)) qz7_) : gb107 ≠ gb101)); clear BK101; clear HB; have BK101 := n0_; have HB := n1_; have BK107 := n2_; have GW107 := n3_; have GE107 := n4_; have NB101_107 := n5_; have NB107_101 := n6_; clear n0_ n1_ n2_ n3_ n4_ n5_ n6_; clear hb hbox hg; have hnb16 := NB107_101.out; have hnc16 := NB101_107.out; have hcz17_0 : w15.cell? ⟨gb107, 0, none⟩ = some (.int .i64 0) := (blk_cell BK107.out 0).trans rfl; have hcz17_1 : w15.cell? ⟨gb107, 1, none⟩ = some (.int .i64 0) := (blk_cell BK107.out 1).trans rfl; have hcz17_2 : w15.cell? ⟨gb107, 2, none⟩ = some (.int .i64 0) := (blk_cell BK107.out 2).trans rfl; have hcz17_3 : w15.cell? ⟨gb107, 3, none⟩ = some (.int .i64 0) := (blk_cell BK107.out 3).trans rfl; have hfz17_0 := blk_frozen BK107.out 0; have hfz17_1 := blk_frozen BK107.out 1; have hfz17_2 := blk_frozen BK107.out 2; have hfz17_3 := blk_frozen BK107.out 3; have hcz18_0 : w15.cell? ⟨gb101, 0, none⟩ = some (.int .i64 0) := (blk_cell BK101.out 0).trans rfl; have hcz18_1 : w15.cell? ⟨gb101, 1, none⟩ = some (.int .i64 0) := (blk_cell BK101.out 1).trans rfl; have hcz18_2 : w15.cell? ⟨gb101, 2, none⟩ = some (.int .i64 0) := (blk_cell BK101.out 2).trans rfl; have hcz18_3 : w15.cell? ⟨gb101, 3, none⟩ = some (.int .i64 0) := (blk_cell BK101.out 3).trans rfl; have hfz18_0 := blk_frozen BK101.out 0; have hfz18_1 := blk_frozen BK101.out 1; have hfz18_2 := blk_frozen BK101.out 2; have hfz18_3 := blk_frozen BK101.out 3))
   refine bodyPost_ret (results_ct rfl _ _ gb101 30 #[.int .i64 0, .int .i64 0, .int .i64 0, .int .i64 0] (0, 0) _ rfl (by (with_reducible repeat (first | refine blk_drewN ?_ _ | refine blk_drew ?_ | refine blk_alloc ?_ _)); refine blk_put (cs := #[.int .i64 0, .int .i64 0, .int .i64 0, .int .i64 0]) ?_ 3 _ rfl; (with_reducible repeat (first | refine blk_drewN ?_ _ | refine blk_drew ?_ | refine blk_alloc ?_ _)); refine blk_put (cs := #[.int .i64 0, .int .i64 0, .int .i64 0, .int .i64 0]) ?_ 2 _ rfl; (with_reducible repeat (first | refine blk_drewN ?_ _ | refine blk_drew ?_ | refine blk_alloc ?_ _)); refine blk_put (cs := #[.int .i64 0, .int .i64 0, .int .i64 0, .int .i64 0]) ?_ 1 _ rfl; (with_reducible repeat (first | refine blk_drewN ?_ _ | refine blk_drew ?_ | refine blk_alloc ?_ _)); refine blk_put (cs := #[.int .i64 0, .int .i64 0, .int .i64 0, .int .i64 0]) ?_ 0 _ rfl; (with_reducible repeat (first | refine blk_drewN ?_ _ | refine blk_drew ?_ | refine blk_alloc ?_ _)); refine blk_far ?_ NB101_107.out _; (with_reducible repeat (first | refine blk_drewN ?_ _ | refine blk_drew ?_ | refine blk_alloc ?_ _)); refine blk_far ?_ NB101_107.out _; (with_reducible repeat (first | refine blk_drewN ?_ _ | refine blk_drew ?_ | refine blk_alloc ?_ _)); refine blk_far ?_ NB101_107.out _; (with_reducible repeat (first | refine blk_drewN ?_ _ | refine blk_drew ?_ | refine blk_alloc ?_ _)); refine blk_far ?_ NB101_107.out _; (with_reducible repeat (first | refine blk_drewN ?_ _ | refine blk_drew ?_ | refine blk_alloc ?_ _)); exact BK101.out) Tryd.underlying30 rfl (by kernel_rfl)) rfl ?_
   exact ⟨qz4_, (by repeat (first | (with_reducible first | exact HB.out | apply below_alloc | apply pw_below_drewN | apply below_drew1 | refine below_set ?_ GE101.out | refine below_set ?_ GE107.out) | exact HB.out))⟩

def laws_eqGate.f (a0_0 : Int) (a0_1 : Int) (a0_2 : Int) (a0_3 : Int) (a1_0 : Int) (a1_1 : Int) (a1_2 : Int) (a1_3 : Int) : Option (Bool) := if a0_0 = a1_0 then (if a0_1 = a1_1 then (if a0_2 = a1_2 then (if a0_3 = a1_3 then (some true) else (some false)) else (some false)) else (some false)) else (some false)
set_option maxHeartbeats 8000000 in
set_option maxRecDepth 100000 in
theorem laws_eqGate.calls (a0_0 : Int) (a0_1 : Int) (a0_2 : Int) (a0_3 : Int) (a1_0 : Int) (a1_1 : Int) (a1_2 : Int) (a1_3 : Int) (r : Bool) (w : World) (h : laws_eqGate.f a0_0 a0_1 a0_2 a0_3 a1_0 a1_1 a1_2 a1_3 = some r) :
  Calls Tryd.prog 10 #[.agg #[.int .i64 a0_0, .int .i64 a0_1, .int .i64 a0_2, .int .i64 a0_3], .agg #[.int .i64 a1_0, .int .i64 a1_1, .int .i64 a1_2, .int .i64 a1_3]] w fun e w' => e = .returned (.bool r) ∧ Below w.heap.size w w' := by
 have hu30 := Tryd.underlying30
 have HB := am_ (Below.refl w.heap.size w)
 have H : (if a0_0 = a1_0 then (if a0_1 = a1_1 then (if a0_2 = a1_2 then (if a0_3 = a1_3 then (some true) else (some false)) else (some false)) else (some false)) else (some false)) = some r := h
 clear h
 by_cases c3 : a0_0 = a1_0
 ·
  rw [if_pos c3] at H
  have c3b0 : (a0_0 == a1_0) = true := beq_iff_eq.mpr c3
  have c3b1 : (a0_0 != a1_0) = false := bne_eq_false_iff_eq.mpr c3
  clear c3
  by_cases c4 : a0_1 = a1_1
  ·
   rw [if_pos c4] at H
   have c4b0 : (a0_1 == a1_1) = true := beq_iff_eq.mpr c4
   have c4b1 : (a0_1 != a1_1) = false := bne_eq_false_iff_eq.mpr c4
   clear c4
   by_cases c5 : a0_2 = a1_2
   ·
    rw [if_pos c5] at H
    have c5b0 : (a0_2 == a1_2) = true := beq_iff_eq.mpr c5
    have c5b1 : (a0_2 != a1_2) = false := bne_eq_false_iff_eq.mpr c5
    clear c5
    by_cases c6 : a0_3 = a1_3
    ·
     rw [if_pos c6] at H
     have c6b0 : (a0_3 == a1_3) = true := beq_iff_eq.mpr c6
     have c6b1 : (a0_3 != a1_3) = false := bne_eq_false_iff_eq.mpr c6
     clear c6
     obtain rfl := Option.some.inj H
     go_enter Tryd.func10, Tryd.ntmps10
     go_wp2_with (first | ((with_reducible refine gate_dst (N := 2) rfl ?_); refine box_event ?hg (N := 2) ?hd (cs := #[.int .i64 a0_0, .int .i64 a0_1, .int .i64 a0_2, .int .i64 a0_3]) (t := 30) ?hr ?_; (case hd => rfl); (case hg => rfl); (case hr => first | (go_simp; done) | (go_simp; rfl)); intro gb101 hg w7 hbox hb; have n0_ := am_ (below_step qz3_ hb); have n1_ := am_ (hbox); have n2_ := am_ ((by rw [hg]; exact (below_size qz3_) : w.heap.size ≤ gb101)); have n3_ := am_ ((by rw [hg]; exact (below_size qz3_) : w.heap.size ≤ gb101)); clear HB; have HB := n0_; have BK101 := n1_; have GW101 := n2_; have GE101 := n3_; clear n0_ n1_ n2_ n3_; clear hb hbox hg) | ((with_reducible refine gate_dst (N := 3) rfl ?_); refine box_event ?hg (N := 3) ?hd (cs := #[.int .i64 a1_0, .int .i64 a1_1, .int .i64 a1_2, .int .i64 a1_3]) (t := 30) ?hr ?_; (case hd => rfl); (case hg => rfl); (case hr => first | (go_simp; done) | (go_simp; rfl)); intro gb102 hg w8 hbox hb; have n0_ := am_ (blk_below (g := gb101) (o := .cells #[.int .i64 a0_0, .int .i64 a0_1, .int .i64 a0_2, .int .i64 a0_3] 30 (0, 0)) qz7_ hb); have n1_ := am_ (below_step qz5_ hb); have n2_ := am_ (hbox); have n3_ := am_ ((by rw [hg]; exact (below_size qz5_) : w.heap.size ≤ gb102)); have n4_ := am_ ((by rw [hg]; exact (below_size qz5_) : w.heap.size ≤ gb102)); have n5_ := am_ ((by rw [hg]; exact Nat.ne_of_lt (blk_lt (g := gb101) (o := .cells #[.int .i64 a0_0, .int .i64 a0_1, .int .i64 a0_2, .int .i64 a0_3] 30 (0, 0)) qz7_) : gb101 ≠ gb102)); have n6_ := am_ ((by rw [hg]; exact Nat.ne_of_gt (blk_lt (g := gb101) (o := .cells #[.int .i64 a0_0, .int .i64 a0_1, .int .i64 a0_2, .int .i64 a0_3] 30 (0, 0)) qz7_) : gb102 ≠ gb101)); clear BK101; clear HB; have BK101 := n0_; have HB := n1_; have BK102 := n2_; have GW102 := n3_; have GE102 := n4_; have NB101_102 := n5_; have NB102_101 := n6_; clear n0_ n1_ n2_ n3_ n4_ n5_ n6_; clear hb hbox hg; have hnb9 := NB101_102.out; have hnc9 := NB102_101.out; have hcz10_0 : w8.cell? ⟨gb101, 0, none⟩ = some (.int .i64 a0_0) := (blk_cell BK101.out 0).trans rfl; have hcz10_1 : w8.cell? ⟨gb101, 1, none⟩ = some (.int .i64 a0_1) := (blk_cell BK101.out 1).trans rfl; have hcz10_2 : w8.cell? ⟨gb101, 2, none⟩ = some (.int .i64 a0_2) := (blk_cell BK101.out 2).trans rfl; have hcz10_3 : w8.cell? ⟨gb101, 3, none⟩ = some (.int .i64 a0_3) := (blk_cell BK101.out 3).trans rfl; have hfz10_0 := blk_frozen BK101.out 0; have hfz10_1 := blk_frozen BK101.out 1; have hfz10_2 := blk_frozen BK101.out 2; have hfz10_3 := blk_frozen BK101.out 3; have hcz11_0 : w8.cell? ⟨gb102, 0, none⟩ = some (.int .i64 a1_0) := (blk_cell BK102.out 0).trans rfl; have hcz11_1 : w8.cell? ⟨gb102, 1, none⟩ = some (.int .i64 a1_1) := (blk_cell BK102.out 1).trans rfl; have hcz11_2 : w8.cell? ⟨gb102, 2, none⟩ = some (.int .i64 a1_2) := (blk_cell BK102.out 2).trans rfl; have hcz11_3 : w8.cell? ⟨gb102, 3, none⟩ = some (.int .i64 a1_3) := (blk_cell BK102.out 3).trans rfl; have hfz11_0 := blk_frozen BK102.out 0; have hfz11_1 := blk_frozen BK102.out 1; have hfz11_2 := blk_frozen BK102.out 2; have hfz11_3 := blk_frozen BK102.out 3))
     go_ret
     exact ⟨qz4_, qz17_⟩
    ·
     rw [if_neg c6] at H
     have c6b0 : (a0_3 == a1_3) = false := beq_eq_false_iff_ne.mpr c6
     have c6b1 : (a0_3 != a1_3) = true := bne_iff_ne.mpr c6
     obtain rfl := Option.some.inj H
     go_enter Tryd.func10, Tryd.ntmps10
     go_wp2_with (first | ((with_reducible refine gate_dst (N := 2) rfl ?_); refine box_event ?hg (N := 2) ?hd (cs := #[.int .i64 a0_0, .int .i64 a0_1, .int .i64 a0_2, .int .i64 a0_3]) (t := 30) ?hr ?_; (case hd => rfl); (case hg => rfl); (case hr => first | (go_simp; done) | (go_simp; rfl)); intro gb101 hg w12 hbox hb; have n0_ := am_ (below_step qz3_ hb); have n1_ := am_ (hbox); have n2_ := am_ ((by rw [hg]; exact (below_size qz3_) : w.heap.size ≤ gb101)); have n3_ := am_ ((by rw [hg]; exact (below_size qz3_) : w.heap.size ≤ gb101)); clear HB; have HB := n0_; have BK101 := n1_; have GW101 := n2_; have GE101 := n3_; clear n0_ n1_ n2_ n3_; clear hb hbox hg) | ((with_reducible refine gate_dst (N := 3) rfl ?_); refine box_event ?hg (N := 3) ?hd (cs := #[.int .i64 a1_0, .int .i64 a1_1, .int .i64 a1_2, .int .i64 a1_3]) (t := 30) ?hr ?_; (case hd => rfl); (case hg => rfl); (case hr => first | (go_simp; done) | (go_simp; rfl)); intro gb102 hg w13 hbox hb; have n0_ := am_ (blk_below (g := gb101) (o := .cells #[.int .i64 a0_0, .int .i64 a0_1, .int .i64 a0_2, .int .i64 a0_3] 30 (0, 0)) qz7_ hb); have n1_ := am_ (below_step qz5_ hb); have n2_ := am_ (hbox); have n3_ := am_ ((by rw [hg]; exact (below_size qz5_) : w.heap.size ≤ gb102)); have n4_ := am_ ((by rw [hg]; exact (below_size qz5_) : w.heap.size ≤ gb102)); have n5_ := am_ ((by rw [hg]; exact Nat.ne_of_lt (blk_lt (g := gb101) (o := .cells #[.int .i64 a0_0, .int .i64 a0_1, .int .i64 a0_2, .int .i64 a0_3] 30 (0, 0)) qz7_) : gb101 ≠ gb102)); have n6_ := am_ ((by rw [hg]; exact Nat.ne_of_gt (blk_lt (g := gb101) (o := .cells #[.int .i64 a0_0, .int .i64 a0_1, .int .i64 a0_2, .int .i64 a0_3] 30 (0, 0)) qz7_) : gb102 ≠ gb101)); clear BK101; clear HB; have BK101 := n0_; have HB := n1_; have BK102 := n2_; have GW102 := n3_; have GE102 := n4_; have NB101_102 := n5_; have NB102_101 := n6_; clear n0_ n1_ n2_ n3_ n4_ n5_ n6_; clear hb hbox hg; have hnb14 := NB101_102.out; have hnc14 := NB102_101.out; have hcz15_0 : w13.cell? ⟨gb101, 0, none⟩ = some (.int .i64 a0_0) := (blk_cell BK101.out 0).trans rfl; have hcz15_1 : w13.cell? ⟨gb101, 1, none⟩ = some (.int .i64 a0_1) := (blk_cell BK101.out 1).trans rfl; have hcz15_2 : w13.cell? ⟨gb101, 2, none⟩ = some (.int .i64 a0_2) := (blk_cell BK101.out 2).trans rfl; have hcz15_3 : w13.cell? ⟨gb101, 3, none⟩ = some (.int .i64 a0_3) := (blk_cell BK101.out 3).trans rfl; have hfz15_0 := blk_frozen BK101.out 0; have hfz15_1 := blk_frozen BK101.out 1; have hfz15_2 := blk_frozen BK101.out 2; have hfz15_3 := blk_frozen BK101.out 3; have hcz16_0 : w13.cell? ⟨gb102, 0, none⟩ = some (.int .i64 a1_0) := (blk_cell BK102.out 0).trans rfl; have hcz16_1 : w13.cell? ⟨gb102, 1, none⟩ = some (.int .i64 a1_1) := (blk_cell BK102.out 1).trans rfl; have hcz16_2 : w13.cell? ⟨gb102, 2, none⟩ = some (.int .i64 a1_2) := (blk_cell BK102.out 2).trans rfl; have hcz16_3 : w13.cell? ⟨gb102, 3, none⟩ = some (.int .i64 a1_3) := (blk_cell BK102.out 3).trans rfl; have hfz16_0 := blk_frozen BK102.out 0; have hfz16_1 := blk_frozen BK102.out 1; have hfz16_2 := blk_frozen BK102.out 2; have hfz16_3 := blk_frozen BK102.out 3))
     go_ret
     exact ⟨qz4_, qz17_⟩
   ·
    rw [if_neg c5] at H
    have c5b0 : (a0_2 == a1_2) = false := beq_eq_false_iff_ne.mpr c5
    have c5b1 : (a0_2 != a1_2) = true := bne_iff_ne.mpr c5
    obtain rfl := Option.some.inj H
    go_enter Tryd.func10, Tryd.ntmps10
    go_wp2_with (first | ((with_reducible refine gate_dst (N := 2) rfl ?_); refine box_event ?hg (N := 2) ?hd (cs := #[.int .i64 a0_0, .int .i64 a0_1, .int .i64 a0_2, .int .i64 a0_3]) (t := 30) ?hr ?_; (case hd => rfl); (case hg => rfl); (case hr => first | (go_simp; done) | (go_simp; rfl)); intro gb101 hg w17 hbox hb; have n0_ := am_ (below_step qz3_ hb); have n1_ := am_ (hbox); have n2_ := am_ ((by rw [hg]; exact (below_size qz3_) : w.heap.size ≤ gb101)); have n3_ := am_ ((by rw [hg]; exact (below_size qz3_) : w.heap.size ≤ gb101)); clear HB; have HB := n0_; have BK101 := n1_; have GW101 := n2_; have GE101 := n3_; clear n0_ n1_ n2_ n3_; clear hb hbox hg) | ((with_reducible refine gate_dst (N := 3) rfl ?_); refine box_event ?hg (N := 3) ?hd (cs := #[.int .i64 a1_0, .int .i64 a1_1, .int .i64 a1_2, .int .i64 a1_3]) (t := 30) ?hr ?_; (case hd => rfl); (case hg => rfl); (case hr => first | (go_simp; done) | (go_simp; rfl)); intro gb102 hg w18 hbox hb; have n0_ := am_ (blk_below (g := gb101) (o := .cells #[.int .i64 a0_0, .int .i64 a0_1, .int .i64 a0_2, .int .i64 a0_3] 30 (0, 0)) qz7_ hb); have n1_ := am_ (below_step qz5_ hb); have n2_ := am_ (hbox); have n3_ := am_ ((by rw [hg]; exact (below_size qz5_) : w.heap.size ≤ gb102)); have n4_ := am_ ((by rw [hg]; exact (below_size qz5_) : w.heap.size ≤ gb102)); have n5_ := am_ ((by rw [hg]; exact Nat.ne_of_lt (blk_lt (g := gb101) (o := .cells #[.int .i64 a0_0, .int .i64 a0_1, .int .i64 a0_2, .int .i64 a0_3] 30 (0, 0)) qz7_) : gb101 ≠ gb102)); have n6_ := am_ ((by rw [hg]; exact Nat.ne_of_gt (blk_lt (g := gb101) (o := .cells #[.int .i64 a0_0, .int .i64 a0_1, .int .i64 a0_2, .int .i64 a0_3] 30 (0, 0)) qz7_) : gb102 ≠ gb101)); clear BK101; clear HB; have BK101 := n0_; have HB := n1_; have BK102 := n2_; have GW102 := n3_; have GE102 := n4_; have NB101_102 := n5_; have NB102_101 := n6_; clear n0_ n1_ n2_ n3_ n4_ n5_ n6_; clear hb hbox hg; have hnb19 := NB101_102.out; have hnc19 := NB102_101.out; have hcz20_0 : w18.cell? ⟨gb101, 0, none⟩ = some (.int .i64 a0_0) := (blk_cell BK101.out 0).trans rfl; have hcz20_1 : w18.cell? ⟨gb101, 1, none⟩ = some (.int .i64 a0_1) := (blk_cell BK101.out 1).trans rfl; have hcz20_2 : w18.cell? ⟨gb101, 2, none⟩ = some (.int .i64 a0_2) := (blk_cell BK101.out 2).trans rfl; have hcz20_3 : w18.cell? ⟨gb101, 3, none⟩ = some (.int .i64 a0_3) := (blk_cell BK101.out 3).trans rfl; have hfz20_0 := blk_frozen BK101.out 0; have hfz20_1 := blk_frozen BK101.out 1; have hfz20_2 := blk_frozen BK101.out 2; have hfz20_3 := blk_frozen BK101.out 3; have hcz21_0 : w18.cell? ⟨gb102, 0, none⟩ = some (.int .i64 a1_0) := (blk_cell BK102.out 0).trans rfl; have hcz21_1 : w18.cell? ⟨gb102, 1, none⟩ = some (.int .i64 a1_1) := (blk_cell BK102.out 1).trans rfl; have hcz21_2 : w18.cell? ⟨gb102, 2, none⟩ = some (.int .i64 a1_2) := (blk_cell BK102.out 2).trans rfl; have hcz21_3 : w18.cell? ⟨gb102, 3, none⟩ = some (.int .i64 a1_3) := (blk_cell BK102.out 3).trans rfl; have hfz21_0 := blk_frozen BK102.out 0; have hfz21_1 := blk_frozen BK102.out 1; have hfz21_2 := blk_frozen BK102.out 2; have hfz21_3 := blk_frozen BK102.out 3))
    go_ret
    exact ⟨qz4_, qz17_⟩
  ·
   rw [if_neg c4] at H
   have c4b0 : (a0_1 == a1_1) = false := beq_eq_false_iff_ne.mpr c4
   have c4b1 : (a0_1 != a1_1) = true := bne_iff_ne.mpr c4
   obtain rfl := Option.some.inj H
   go_enter Tryd.func10, Tryd.ntmps10
   go_wp2_with (first | ((with_reducible refine gate_dst (N := 2) rfl ?_); refine box_event ?hg (N := 2) ?hd (cs := #[.int .i64 a0_0, .int .i64 a0_1, .int .i64 a0_2, .int .i64 a0_3]) (t := 30) ?hr ?_; (case hd => rfl); (case hg => rfl); (case hr => first | (go_simp; done) | (go_simp; rfl)); intro gb101 hg w22 hbox hb; have n0_ := am_ (below_step qz3_ hb); have n1_ := am_ (hbox); have n2_ := am_ ((by rw [hg]; exact (below_size qz3_) : w.heap.size ≤ gb101)); have n3_ := am_ ((by rw [hg]; exact (below_size qz3_) : w.heap.size ≤ gb101)); clear HB; have HB := n0_; have BK101 := n1_; have GW101 := n2_; have GE101 := n3_; clear n0_ n1_ n2_ n3_; clear hb hbox hg) | ((with_reducible refine gate_dst (N := 3) rfl ?_); refine box_event ?hg (N := 3) ?hd (cs := #[.int .i64 a1_0, .int .i64 a1_1, .int .i64 a1_2, .int .i64 a1_3]) (t := 30) ?hr ?_; (case hd => rfl); (case hg => rfl); (case hr => first | (go_simp; done) | (go_simp; rfl)); intro gb102 hg w23 hbox hb; have n0_ := am_ (blk_below (g := gb101) (o := .cells #[.int .i64 a0_0, .int .i64 a0_1, .int .i64 a0_2, .int .i64 a0_3] 30 (0, 0)) qz7_ hb); have n1_ := am_ (below_step qz5_ hb); have n2_ := am_ (hbox); have n3_ := am_ ((by rw [hg]; exact (below_size qz5_) : w.heap.size ≤ gb102)); have n4_ := am_ ((by rw [hg]; exact (below_size qz5_) : w.heap.size ≤ gb102)); have n5_ := am_ ((by rw [hg]; exact Nat.ne_of_lt (blk_lt (g := gb101) (o := .cells #[.int .i64 a0_0, .int .i64 a0_1, .int .i64 a0_2, .int .i64 a0_3] 30 (0, 0)) qz7_) : gb101 ≠ gb102)); have n6_ := am_ ((by rw [hg]; exact Nat.ne_of_gt (blk_lt (g := gb101) (o := .cells #[.int .i64 a0_0, .int .i64 a0_1, .int .i64 a0_2, .int .i64 a0_3] 30 (0, 0)) qz7_) : gb102 ≠ gb101)); clear BK101; clear HB; have BK101 := n0_; have HB := n1_; have BK102 := n2_; have GW102 := n3_; have GE102 := n4_; have NB101_102 := n5_; have NB102_101 := n6_; clear n0_ n1_ n2_ n3_ n4_ n5_ n6_; clear hb hbox hg; have hnb24 := NB101_102.out; have hnc24 := NB102_101.out; have hcz25_0 : w23.cell? ⟨gb101, 0, none⟩ = some (.int .i64 a0_0) := (blk_cell BK101.out 0).trans rfl; have hcz25_1 : w23.cell? ⟨gb101, 1, none⟩ = some (.int .i64 a0_1) := (blk_cell BK101.out 1).trans rfl; have hcz25_2 : w23.cell? ⟨gb101, 2, none⟩ = some (.int .i64 a0_2) := (blk_cell BK101.out 2).trans rfl; have hcz25_3 : w23.cell? ⟨gb101, 3, none⟩ = some (.int .i64 a0_3) := (blk_cell BK101.out 3).trans rfl; have hfz25_0 := blk_frozen BK101.out 0; have hfz25_1 := blk_frozen BK101.out 1; have hfz25_2 := blk_frozen BK101.out 2; have hfz25_3 := blk_frozen BK101.out 3; have hcz26_0 : w23.cell? ⟨gb102, 0, none⟩ = some (.int .i64 a1_0) := (blk_cell BK102.out 0).trans rfl; have hcz26_1 : w23.cell? ⟨gb102, 1, none⟩ = some (.int .i64 a1_1) := (blk_cell BK102.out 1).trans rfl; have hcz26_2 : w23.cell? ⟨gb102, 2, none⟩ = some (.int .i64 a1_2) := (blk_cell BK102.out 2).trans rfl; have hcz26_3 : w23.cell? ⟨gb102, 3, none⟩ = some (.int .i64 a1_3) := (blk_cell BK102.out 3).trans rfl; have hfz26_0 := blk_frozen BK102.out 0; have hfz26_1 := blk_frozen BK102.out 1; have hfz26_2 := blk_frozen BK102.out 2; have hfz26_3 := blk_frozen BK102.out 3))
   go_ret
   exact ⟨qz4_, qz17_⟩
 ·
  rw [if_neg c3] at H
  have c3b0 : (a0_0 == a1_0) = false := beq_eq_false_iff_ne.mpr c3
  have c3b1 : (a0_0 != a1_0) = true := bne_iff_ne.mpr c3
  obtain rfl := Option.some.inj H
  go_enter Tryd.func10, Tryd.ntmps10
  go_wp2_with (first | ((with_reducible refine gate_dst (N := 2) rfl ?_); refine box_event ?hg (N := 2) ?hd (cs := #[.int .i64 a0_0, .int .i64 a0_1, .int .i64 a0_2, .int .i64 a0_3]) (t := 30) ?hr ?_; (case hd => rfl); (case hg => rfl); (case hr => first | (go_simp; done) | (go_simp; rfl)); intro gb101 hg w27 hbox hb; have n0_ := am_ (below_step qz3_ hb); have n1_ := am_ (hbox); have n2_ := am_ ((by rw [hg]; exact (below_size qz3_) : w.heap.size ≤ gb101)); have n3_ := am_ ((by rw [hg]; exact (below_size qz3_) : w.heap.size ≤ gb101)); clear HB; have HB := n0_; have BK101 := n1_; have GW101 := n2_; have GE101 := n3_; clear n0_ n1_ n2_ n3_; clear hb hbox hg) | ((with_reducible refine gate_dst (N := 3) rfl ?_); refine box_event ?hg (N := 3) ?hd (cs := #[.int .i64 a1_0, .int .i64 a1_1, .int .i64 a1_2, .int .i64 a1_3]) (t := 30) ?hr ?_; (case hd => rfl); (case hg => rfl); (case hr => first | (go_simp; done) | (go_simp; rfl)); intro gb102 hg w28 hbox hb; have n0_ := am_ (blk_below (g := gb101) (o := .cells #[.int .i64 a0_0, .int .i64 a0_1, .int .i64 a0_2, .int .i64 a0_3] 30 (0, 0)) qz7_ hb); have n1_ := am_ (below_step qz5_ hb); have n2_ := am_ (hbox); have n3_ := am_ ((by rw [hg]; exact (below_size qz5_) : w.heap.size ≤ gb102)); have n4_ := am_ ((by rw [hg]; exact (below_size qz5_) : w.heap.size ≤ gb102)); have n5_ := am_ ((by rw [hg]; exact Nat.ne_of_lt (blk_lt (g := gb101) (o := .cells #[.int .i64 a0_0, .int .i64 a0_1, .int .i64 a0_2, .int .i64 a0_3] 30 (0, 0)) qz7_) : gb101 ≠ gb102)); have n6_ := am_ ((by rw [hg]; exact Nat.ne_of_gt (blk_lt (g := gb101) (o := .cells #[.int .i64 a0_0, .int .i64 a0_1, .int .i64 a0_2, .int .i64 a0_3] 30 (0, 0)) qz7_) : gb102 ≠ gb101)); clear BK101; clear HB; have BK101 := n0_; have HB := n1_; have BK102 := n2_; have GW102 := n3_; have GE102 := n4_; have NB101_102 := n5_; have NB102_101 := n6_; clear n0_ n1_ n2_ n3_ n4_ n5_ n6_; clear hb hbox hg; have hnb29 := NB101_102.out; have hnc29 := NB102_101.out; have hcz30_0 : w28.cell? ⟨gb101, 0, none⟩ = some (.int .i64 a0_0) := (blk_cell BK101.out 0).trans rfl; have hcz30_1 : w28.cell? ⟨gb101, 1, none⟩ = some (.int .i64 a0_1) := (blk_cell BK101.out 1).trans rfl; have hcz30_2 : w28.cell? ⟨gb101, 2, none⟩ = some (.int .i64 a0_2) := (blk_cell BK101.out 2).trans rfl; have hcz30_3 : w28.cell? ⟨gb101, 3, none⟩ = some (.int .i64 a0_3) := (blk_cell BK101.out 3).trans rfl; have hfz30_0 := blk_frozen BK101.out 0; have hfz30_1 := blk_frozen BK101.out 1; have hfz30_2 := blk_frozen BK101.out 2; have hfz30_3 := blk_frozen BK101.out 3; have hcz31_0 : w28.cell? ⟨gb102, 0, none⟩ = some (.int .i64 a1_0) := (blk_cell BK102.out 0).trans rfl; have hcz31_1 : w28.cell? ⟨gb102, 1, none⟩ = some (.int .i64 a1_1) := (blk_cell BK102.out 1).trans rfl; have hcz31_2 : w28.cell? ⟨gb102, 2, none⟩ = some (.int .i64 a1_2) := (blk_cell BK102.out 2).trans rfl; have hcz31_3 : w28.cell? ⟨gb102, 3, none⟩ = some (.int .i64 a1_3) := (blk_cell BK102.out 3).trans rfl; have hfz31_0 := blk_frozen BK102.out 0; have hfz31_1 := blk_frozen BK102.out 1; have hfz31_2 := blk_frozen BK102.out 2; have hfz31_3 := blk_frozen BK102.out 3))
  go_ret
  exact ⟨qz4_, qz17_⟩

end Go.Proofs.YtokljkneflejdaaDoor.PT
end
section
/- The law's walk: FnExactReadGate. -/
namespace Go.Proofs.YtokljkneflejdaaDoor.PT
open Go Go.RowKit Go.Lib Go.Proofs.YtokljkneflejdaaDoorW.PrintWords Go.Proofs.YtokljkneflejdaaDoorW.PrintLast Go.Proofs.YtokljkneflejdaaDoorW.PrintMore
set_option linter.unusedVariables false
set_option linter.unusedSimpArgs false
set_option maxHeartbeats 8000000 in
set_option maxRecDepth 100000 in
theorem laws_FnExactReadGate.long (t : ByteArray) (w : World) (ht : (t.size : Int) > 1048576) : Calls Tryd.prog 4 #[.string t] w fun e w' => e = .returned (.bool true) ∧ Below w.heap.size w w' := by
 have c0 : decide (1048576 < (t.size : Int)) = true := decide_eq_true ht
 have c1 : decide (1048576 < t.size) = true := decide_eq_true (by omega)
 clear ht
 go_enter Tryd.func4, Tryd.ntmps4
 go_wp2
 go_ret
 exact ⟨rfl, Below.refl _ _⟩
set_option maxHeartbeats 8000000 in
set_option maxRecDepth 100000 in
theorem laws_FnExactReadGate.calls (k k' : Nat) (t : ByteArray) (r1 r2 r3 r4 r5 : Int) (w : World) (hg : RG w) (ht : ¬ (t.size : Int) > 1048576) (hs : spec_ReadGate.f k t = some (r1, r2, r3, r4, r5)) (hi : impl_ReadGate.f k' t = some (r1, r2, r3, r4, r5)) : Calls Tryd.prog 4 #[.string t] w fun e w' => e = .returned (.bool true) ∧ Below w.heap.size w w' := by
 have hu30 := Tryd.underlying30
 have HI := am_ (Inv.start w RG (fun W hb => hg.below hb))
 have c0 : decide (1048576 < (t.size : Int)) = false := decide_eq_false ht
 have c1 : decide (1048576 < t.size) = false := decide_eq_false (by omega)
 have HS := am_ hs
 have HM := am_ hi
 have HE := am_ (show laws_eqGate.f r1 r2 r3 r4 r1 r2 r3 r4 = some true by unfold laws_eqGate.f; simp)
 clear hg ht hs hi
 go_enter Tryd.func4, Tryd.ntmps4
 go_wp2_with (first | (go_at_call 9; refine (spec_ReadGate.calls k t r1 r2 r3 r4 r5 _ HS.out).mono ?_; rintro e w9 ⟨rfl, hb⟩; have HI_ := am_ (HI.out.grow hb); clear HI; have HI := HI_; clear HI_; clear hb) | ((with_reducible refine gate_dst (N := 3) rfl ?_); refine box_event ?hg (N := 3) ?hd (cs := #[.int .i64 0, .int .i64 0, .int .i64 0, .int .i64 0]) (t := 30) ?hr ?_; (case hd => rfl); (case hg => rfl); (case hr => first | (go_simp; done) | (go_simp; rfl)); intro g3 hg w3 hbox hb; have HI_ := am_ ((HI.out).box hg hbox hb); clear HI; have HI := HI_; clear HI_; clear hb hbox hg) | ((with_reducible refine gate_store (p := 3) (v := (.tmp 13)) (t := 30) rfl ?_); go_must (refine wpList_store_row rfl 30 _ _ rfl g3 (#[.int .i64 r1, .int .i64 r2, .int .i64 r3, .int .i64 r4]) rfl (by first | rfl | (go_simp; rfl)) 30 (#[.int .i64 0, .int .i64 0, .int .i64 0, .int .i64 0]) (Inv.blk0 (HI.out)) (by kernel_rfl) (by rfl) (by first | rfl | simp [Value.oneCell']) ?_; have HI_ := am_ (Inv.put0 (HI.out) (#[.int .i64 r1, .int .i64 r2, .int .i64 r3, .int .i64 r4])); clear HI; have HI := HI_; clear HI_; generalize World.setRow _ g3 (#[.int .i64 r1, .int .i64 r2, .int .i64 r3, .int .i64 r4]) = w4 at HI ⊢)) | (go_at_call 8; refine (impl_ReadGate.calls k' t r1 r2 r3 r4 r5 _ HI.out.now HM.out).mono ?_; rintro e w8 ⟨rfl, hb⟩; have HI_ := am_ (HI.out.grow hb); clear HI; have HI := HI_; clear HI_; clear hb) | ((with_reducible refine gate_dst (N := 5) rfl ?_); refine box_event ?hg (N := 5) ?hd (cs := #[.int .i64 0, .int .i64 0, .int .i64 0, .int .i64 0]) (t := 30) ?hr ?_; (case hd => rfl); (case hg => rfl); (case hr => first | (go_simp; done) | (go_simp; rfl)); intro g5 hg w5 hbox hb; have HI_ := am_ ((HI.out).box hg hbox hb); clear HI; have HI := HI_; clear HI_; clear hb hbox hg) | ((with_reducible refine gate_store (p := 5) (v := (.tmp 18)) (t := 30) rfl ?_); go_must (refine wpList_store_row rfl 30 _ _ rfl g5 (#[.int .i64 r1, .int .i64 r2, .int .i64 r3, .int .i64 r4]) rfl (by first | rfl | (go_simp; rfl)) 30 (#[.int .i64 0, .int .i64 0, .int .i64 0, .int .i64 0]) (Inv.blk0 (HI.out)) (by kernel_rfl) (by rfl) (by first | rfl | simp [Value.oneCell']) ?_; have HI_ := am_ (Inv.put0 (HI.out) (#[.int .i64 r1, .int .i64 r2, .int .i64 r3, .int .i64 r4])); clear HI; have HI := HI_; clear HI_; generalize World.setRow _ g5 (#[.int .i64 r1, .int .i64 r2, .int .i64 r3, .int .i64 r4]) = w6 at HI ⊢)) | ((with_reducible refine gate_dst (N := 20) rfl ?_); go_must (refine wpList_load_row rfl 30 _ rfl g5 rfl 30 (#[.int .i64 r1, .int .i64 r2, .int .i64 r3, .int .i64 r4]) (0, 0) _ (HI.out.blk0) hu30 rfl (by kernel_rfl) ?_)) | ((with_reducible refine gate_dst (N := 21) rfl ?_); go_must (refine wpList_load_row rfl 30 _ rfl g3 rfl 30 (#[.int .i64 r1, .int .i64 r2, .int .i64 r3, .int .i64 r4]) (0, 0) _ (HI.out.get 1 rfl) hu30 rfl (by kernel_rfl) ?_)) | (go_at_call 10; refine (laws_eqGate.calls r1 r2 r3 r4 r1 r2 r3 r4 true _ HE.out).mono ?_; rintro e w10 ⟨rfl, hb⟩; have HI_ := am_ (HI.out.grow hb); clear HI; have HI := HI_; clear HI_; clear hb))
 go_ret
 exact ⟨rfl, HI.out.below⟩
end Go.Proofs.YtokljkneflejdaaDoor.PT
end
section
/- The field and the greater field, over whole numbers: what the printed functions of chapters 2 and 3 come to. -/
namespace Go.Proofs.YtokljkneflejdaaDoor.PT
open Go.RowKit Go.Proofs.YtokljkneflejdaaDoorW.PrintWords Go.Proofs.YtokljkneflejdaaDoorW.PrintLast Go.Proofs.YtokljkneflejdaaDoorW.PrintMore
set_option linter.unusedVariables false
set_option linter.unusedSimpArgs false

theorem w64 {n : Int} (h0 : -9223372036854775808 ≤ n) (h1 : n ≤ 9223372036854775807) : wrap64 n = n := by unfold wrap64; omega
def inF (a : Int) : Prop := 0 ≤ a ∧ a ≤ 2130706432
instance (a : Int) : Decidable (inF a) := by unfold inF; infer_instance
end Go.Proofs.YtokljkneflejdaaDoor.PT
end
section
/- What the printed functions of the field and of the greater field answer: the same sums and products on both sides. -/
namespace Go.Proofs.YtokljkneflejdaaDoor.PT
open Go.RowKit Go.Proofs.YtokljkneflejdaaDoorW.PrintWords Go.Proofs.YtokljkneflejdaaDoorW.PrintLast Go.Proofs.YtokljkneflejdaaDoorW.PrintMore
set_option linter.unusedVariables false
set_option linter.unusedSimpArgs false

theorem impl_in_eq (a b c : Int) : impl_in.f a b c = some (decide (b ≤ a ∧ a ≤ c)) := by
 unfold impl_in.f; by_cases h : b ≤ a <;> simp [h]
theorem spec_l01In_eq (a b c : Int) : spec_l01In.f a b c = some (decide (b ≤ a ∧ a ≤ c)) := by
 unfold spec_l01In.f; by_cases h : b ≤ a <;> simp [h]
theorem impl_FieldOK_eq (a : Int) : impl_FieldOK.f a = some (decide (inF a)) := by
 unfold impl_FieldOK.f; rw [impl_in_eq]; rfl
theorem spec_FieldOK_eq (a : Int) : spec_FieldOK.f a = some (decide (inF a)) := by
 unfold spec_FieldOK.f; rw [spec_l01In_eq]; rfl
end Go.Proofs.YtokljkneflejdaaDoor.PT
end
section
/- The laws' own helpers: elements copied, compared, marked; and powers of two. -/
namespace Go.Proofs.YtokljkneflejdaaDoor.PT
open Go.RowKit Go.Proofs.YtokljkneflejdaaDoorW.PrintWords Go.Proofs.YtokljkneflejdaaDoorW.PrintLast Go.Proofs.YtokljkneflejdaaDoorW.PrintMore
set_option linter.unusedVariables false
set_option linter.unusedSimpArgs false
end Go.Proofs.YtokljkneflejdaaDoor.PT
end
section
/- Steps that several laws share: same answers compared, lists turned in place. -/
namespace Go.Proofs.YtokljkneflejdaaDoor.PT
open Go.RowKit Go.Proofs.YtokljkneflejdaaDoorW.PrintWords Go.Proofs.YtokljkneflejdaaDoorW.PrintLast Go.Proofs.YtokljkneflejdaaDoorW.PrintMore
set_option linter.unusedVariables false
set_option linter.unusedSimpArgs false
theorem bS {α β : Type} (a : α) (f : α → Option β) : (some a).bind f = f a := Eq.trans (Eq.refl _) (Option.bind_some a f)
end Go.Proofs.YtokljkneflejdaaDoor.PT
end
section
/- Gates and circuits: the laws' helpers, and what both sides answer. -/
namespace Go.Proofs.YtokljkneflejdaaDoor.PT
open Go.RowKit Go.Proofs.YtokljkneflejdaaDoorW.PrintWords Go.Proofs.YtokljkneflejdaaDoorW.PrintLast Go.Proofs.YtokljkneflejdaaDoorW.PrintMore
set_option linter.unusedVariables false
set_option linter.unusedSimpArgs false
def gateB (x : S30) (i : Int) : Bool :=
 decide (1 ≤ x.f0 ∧ x.f0 ≤ 8) &&
 (if 4 ≤ x.f0 ∧ x.f0 ≤ 7 then decide (0 ≤ x.f1 ∧ x.f1 ≤ i - 1) && decide (0 ≤ x.f2 ∧ x.f2 ≤ i - 1) && (x.f3 == 0)
 else if x.f0 = 8 then decide (0 ≤ x.f1 ∧ x.f1 ≤ i - 1) && (x.f2 == 0) && (x.f3 == 0)
 else if x.f0 = 3 then (x.f1 == 0) && (x.f2 == 0) && decide (inF x.f3)
 else (x.f1 == 0) && (x.f2 == 0) && (x.f3 == 0))
theorem l11Gate_eq (x : S30) {i : Int} (h0 : 0 ≤ i) (h1 : i ≤ 1048576) {k : Nat} (hk : 0 < k) : spec_l11Gate.f k x.f0 x.f1 x.f2 x.f3 i = some (gateB x i) := by
 obtain ⟨k, rfl⟩ : ∃ m, k = m + 1 := ⟨k - 1, (by omega)⟩
 obtain ⟨a, b, c, d⟩ := x
 have j1 : ∀ e, spec_l11Gate.j0 (k + 1) e a b c d = some (if e = true then false else if a = 3 then decide (inF d) else (d == 0)) := by
  intro e
  simp only [spec_l11Gate.j0]
  cases e
  ·
   simp only [Bool.false_eq_true, if_false]
   by_cases h3 : a = 3
   ·
    rw [if_pos h3, if_pos h3, spec_FieldOK_eq]; rfl
   ·
    rw [if_neg h3, if_neg h3]
  ·
   rfl
 unfold spec_l11Gate.f gateB spec_l11Uses.f
 simp only [spec_l01In_eq, bS, j1]
 rw [w64 (n := i - 1) (by omega) (by omega)]
 by_cases hk : 1 ≤ a ∧ a ≤ 8
 ·
  rw [decide_eq_true hk]
  simp only [if_true, Bool.true_and]
  by_cases h4 : 4 ≤ a ∧ a ≤ 7
  ·
   have n3 : ¬ a = 3 := by omega
   rw [decide_eq_true h4, if_pos h4]
   simp only [if_true, bS, n3, if_false]
   by_cases hb : 0 ≤ b ∧ b ≤ i - 1
   ·
    by_cases hc : 0 ≤ c ∧ c ≤ i - 1
    ·
     simp [hb, hc]
    ·
     simp [hb, hc]
   ·
    simp [hb]
  ·
   rw [decide_eq_false h4, if_neg h4]
   by_cases h8 : a = 8
   ·
    have n3 : ¬ a = 3 := by omega
    simp only [h8, if_true, bS, Bool.false_eq_true, if_false]
    by_cases hb : 0 ≤ b ∧ b ≤ i - 1
    ·
     by_cases hc : c = 0
     ·
      simp [hb, hc]
     ·
      simp [hb, hc]
    ·
     simp [hb]
   ·
    simp only [h8, if_false, bS, Bool.false_eq_true]
    by_cases hb : b = 0
    ·
     by_cases hc : c = 0
     ·
      by_cases h3 : a = 3
      ·
       simp [hb, hc, h3]
      ·
       simp [hb, hc, h3]
     ·
      by_cases h3 : a = 3
      ·
       simp [hb, hc, h3]
      ·
       simp [hb, hc, h3]
    ·
     by_cases h3 : a = 3
     ·
      simp [hb, h3]
     ·
      simp [hb, h3]
 ·
  rw [decide_eq_false hk]; rfl
theorem isGate_eq (x : S30) {i : Int} (h0 : 0 ≤ i) (h1 : i ≤ 1048576) {k : Nat} (hk : 0 < k) : impl_isGate.f k x.f0 x.f1 x.f2 x.f3 i = some (gateB x i) := by
 obtain ⟨k, rfl⟩ : ∃ m, k = m + 1 := ⟨k - 1, (by omega)⟩
 obtain ⟨a, b, c, d⟩ := x
 unfold impl_isGate.f gateB
 simp only [impl_isGate.j0, impl_in_eq, impl_FieldOK_eq, bS]
 rw [w64 (n := i - 1) (by omega) (by omega)]
 by_cases h3 : a = 3
 ·
  subst h3
  by_cases hb : b = 0 <;> by_cases hc : c = 0 <;> simp [hb, hc]
 ·
  by_cases h4 : a = 4
  ·
   subst h4
   by_cases hb : 0 ≤ b ∧ b ≤ i - 1 <;> by_cases hc : 0 ≤ c ∧ c ≤ i - 1 <;> simp [hb, hc]
  ·
   by_cases h5 : a = 5
   ·
    subst h5
    by_cases hb : 0 ≤ b ∧ b ≤ i - 1 <;> by_cases hc : 0 ≤ c ∧ c ≤ i - 1 <;> simp [hb, hc]
   ·
    by_cases h6 : a = 6
    ·
     subst h6
     by_cases hb : 0 ≤ b ∧ b ≤ i - 1 <;> by_cases hc : 0 ≤ c ∧ c ≤ i - 1 <;> simp [hb, hc]
    ·
     by_cases h7 : a = 7
     ·
      subst h7
      by_cases hb : 0 ≤ b ∧ b ≤ i - 1 <;> by_cases hc : 0 ≤ c ∧ c ≤ i - 1 <;> simp [hb, hc]
     ·
      have n4 : ¬ (4 ≤ a ∧ a ≤ 7) := by omega
      by_cases h8 : a = 8
      ·
       subst h8
       by_cases hb : 0 ≤ b ∧ b ≤ i - 1 <;> by_cases hc : c = 0 <;> simp [hb, hc]
      ·
       by_cases hk : 1 ≤ a ∧ a ≤ 8
       ·
        by_cases hb : b = 0 <;> by_cases hc : c = 0 <;> simp [h3, h4, h5, h6, h7, h8, n4, hk, hb, hc]
       ·
        simp [h3, h4, h5, h6, h7, h8, n4, hk]
end Go.Proofs.YtokljkneflejdaaDoor.PT
end
section
/- What the reference reads out of a text: its words and their numbers, as the library tells them. -/
namespace Go.Proofs.YtokljkneflejdaaDoor.PT
open Go Go.RowKit Go.Lib Go.Proofs.YtokljkneflejdaaDoorW.PrintWords Go.Proofs.YtokljkneflejdaaDoorW.PrintLast Go.Proofs.YtokljkneflejdaaDoorW.PrintMore
set_option linter.unusedVariables false
set_option linter.unusedSimpArgs false
theorem bt_get {x : ByteArray} {i : Nat} (h : i < x.size) : ∃ h2 : i < x.data.toList.length, bt x (i : Int) = ((x.data.toList[i]).toNat : Int) := by
 refine ⟨(by rw [Array.length_toList]; exact h), ?_⟩
 rw [← bt_at x (i : Int) (by rw [Int.toNat_natCast]; exact h)]
 simp only [Int.toNat_natCast]
 rfl
theorem size_len (x : ByteArray) : x.size = x.data.toList.length := by rw [Array.length_toList]; rfl
theorem pow_le17 {i : Nat} (h : i ≤ 17) : (10 : Nat) ^ i ≤ 100000000000000000 := Nat.le_trans (Nat.pow_le_pow_right (by decide) h) (by decide)
theorem pow_le18 {i : Nat} (h : i ≤ 18) : (10 : Nat) ^ i ≤ 1000000000000000000 := Nat.le_trans (Nat.pow_le_pow_right (by decide) h) (by decide)
def numEnd (s : Int) : Option Nat → Int × Bool
 | some m => (s * m, true)
 | none => (0, false)
theorem num_l0 {x : ByteArray} (hx : x.size ≤ 18) {s : Int} (hs : s = 1 ∨ s = -1) (d : Nat) : ∀ (i acc k : Nat), i + d = x.size → acc < 10 ^ i → d < k → spec_l00Number.l0 k x s (acc : Int) (i : Int) = some (numEnd s (decFrom acc (x.data.toList.drop i))) := by
 induction d with
 | zero =>
  intro i acc k hi ha hk
  obtain ⟨k, rfl⟩ : ∃ m, k = m + 1 := ⟨k - 1, (by omega)⟩
  have hp := pow_le18 (show i ≤ 18 by omega)
  rw [spec_l00Number.l0, if_neg (by omega), List.drop_eq_nil_of_le (by rw [← size_len]; omega)]
  simp only [decFrom, numEnd]
  rcases hs with rfl | rfl
  ·
   rw [w64 (by omega) (by omega)]
  ·
   rw [w64 (by omega) (by omega)]
 | succ d ih =>
  intro i acc k hi ha hk
  obtain ⟨k, rfl⟩ : ∃ m, k = m + 1 := ⟨k - 1, (by omega)⟩
  have hlt : i < x.size := by omega
  have hp := pow_le17 (show i ≤ 17 by omega)
  obtain ⟨h2, hb⟩ := bt_get hlt
  rw [List.drop_eq_getElem_cons h2, spec_l00Number.l0, if_pos (by omega), if_pos (by omega), hb]
  generalize x.data.toList[i] = b
  have hb255 : b.toNat < 256 := b.toNat_lt
  by_cases h48 : b.toNat < 48
  ·
   have e : digitVal b = none := by unfold digitVal; rw [if_neg (by omega)]
   rw [if_pos (by omega)]
   simp only [decFrom, e, numEnd]
  ·
   by_cases h57 : 57 < b.toNat
   ·
    have e : digitVal b = none := by unfold digitVal; rw [if_neg (by omega)]
    rw [if_neg (by omega), if_pos (by omega)]
    simp only [decFrom, e, numEnd]
   ·
    have e : digitVal b = some (b.toNat - 48) := by unfold digitVal; rw [if_pos (by omega)]
    rw [if_neg (by omega), if_neg (by omega), w64 (n := (acc : Int) * 10) (by omega) (by omega), w64 (n := ((b.toNat : Nat) : Int)) (by omega) (by omega), w64 (n := (acc : Int) * 10 + (b.toNat : Int)) (by omega) (by omega), w64 (n := (acc : Int) * 10 + (b.toNat : Int) - 48) (by omega) (by omega), w64 (n := (i : Int) + 1) (by omega) (by omega)]
    rw [show (acc : Int) * 10 + (b.toNat : Int) - 48 = ((acc * 10 + (b.toNat - 48) : Nat) : Int) by omega, show (i : Int) + 1 = ((i + 1 : Nat) : Int) by omega]
    rw [ih (i + 1) (acc * 10 + (b.toNat - 48)) k (by omega) (by rw [Nat.pow_succ]; omega) (by omega)]
    simp only [decFrom, e]
def numEnd2 (s : Int) : Option Nat → Int × Bool
 | some m => if s < 0 ∧ m = 0 then (0, false) else (s * m, true)
 | none => (0, false)
theorem num_j1 (y : ByteArray) {s : Int} (hs : s = 1 ∨ s = -1) {k : Nat} (hk : 25 ≤ k) : spec_l00Number.j1 k y s = some (numEnd2 s (canonL y.data.toList)) := by
 obtain ⟨k, rfl⟩ : ∃ m, k = m + 2 := ⟨k - 2, (by omega)⟩
 have hz := size_len y
 have j2t : spec_l00Number.j2 (k + 1) y s true = some (0, false) := by rw [spec_l00Number.j2, if_pos rfl]
 have j2f : spec_l00Number.j2 (k + 1) y s false = spec_l00Number.l0 k y s 0 0 := by rw [spec_l00Number.j2, if_neg (by decide)]
 rw [spec_l00Number.j1]
 cases hl : y.data.toList with
 | nil =>
  rw [hl] at hz
  rw [if_pos (by rw [hz]; rfl), j2t]
  rfl
 | cons c r =>
  have hz2 : y.size = r.length + 1 := by rw [hz, hl]; rfl
  obtain ⟨h2, hb⟩ := bt_get (x := y) (i := 0) (by omega)
  have hb0 : bt y 0 = (c.toNat : Int) := by rw [show (0 : Int) = ((0 : Nat) : Int) from rfl, hb]; simp [hl]
  rw [if_neg (by omega)]
  by_cases h18 : y.size > 18
  ·
   rw [if_pos (by omega), j2t]
   unfold canonL
   simp only
   rw [if_neg (by simp only [List.length_cons]; omega)]
   rfl
  ·
   rw [if_neg (by omega), if_pos (by omega), hb0]
   have hl0 : spec_l00Number.l0 k y s 0 0 = some (numEnd s (decFrom 0 (c :: r))) := by
    have := num_l0 (x := y) (by omega) hs y.size 0 0 k (by omega) (by decide) (by omega)
    rw [List.drop_zero, hl] at this
    exact this
   by_cases h48 : c = 48
   ·
    subst h48
    rw [if_pos (by rfl)]
    by_cases hr : r = []
    ·
     subst hr
     rw [if_neg (by simp only [List.length_nil] at hz2; omega)]
     have hd : decFrom 0 [(48 : UInt8)] = some 0 := by decide
     have hc : canonL [(48 : UInt8)] = some 0 := by unfold canonL; simp only; rw [if_pos ⟨(by decide), fun _ => by first | rfl | trivial⟩, hd]
     rw [hc]
     rcases hs with rfl | rfl
     ·
      rw [show (decide ((1 : Int) < 0)) = false by decide, j2f, hl0, hd]
      rfl
     ·
      rw [show (decide ((-1 : Int) < 0)) = true by decide, j2t]
      rfl
    ·
     have hrl : 1 ≤ r.length := by cases r with | nil => exact absurd rfl hr | cons _ _ => simp
     rw [if_pos (by omega), j2t]
     unfold canonL
     simp only
     rw [if_neg (fun h => hr (h.2 (by first | rfl | trivial)))]
     rfl
   ·
    have hn : ¬ (c.toNat : Int) = 48 := fun e => h48 (UInt8.toNat_inj.1 (by show c.toNat = 48; omega))
    rw [if_neg hn, j2f, hl0]
    have hc : canonL (c :: r) = decFrom 0 (c :: r) := by unfold canonL; simp only; rw [if_pos ⟨(by simp only [List.length_cons]; omega), fun e => absurd e h48⟩]
    cases hd : decFrom 0 (c :: r) with
    | none => rw [hc, hd]; rfl
    | some m =>
     rw [hc, hd]
     have hm : m ≠ 0 := by
      rintro rfl
      have e := (canonL_some (hc.trans hd)).1
      rw [digits_zero] at e
      injection e with e1 _
      exact h48 e1.symm
     simp only [numEnd, numEnd2]
     rw [if_neg (fun h => hm h.2)]
theorem number_eq (x : ByteArray) {k : Nat} (hk : 30 ≤ k) : ∃ n, spec_l00Number.f k x = some (n, (numA x.data.toList).isSome) ∧ ∀ v, numA x.data.toList = some v → n = v := by
 rw [numA_eq]
 obtain ⟨k, rfl⟩ : ∃ m, k = m + 1 := ⟨k - 1, (by omega)⟩
 have hz := size_len x
 unfold spec_l00Number.f
 cases hl : x.data.toList with
 | nil =>
  rw [hl] at hz
  rw [if_neg (by rw [hz]; decide), spec_l00Number.j0, if_neg (by decide), num_j1 x (.inl rfl) (by omega), hl]
  exact ⟨0, rfl, fun v hv => by cases hv⟩
 | cons c r =>
  have hz2 : x.size = r.length + 1 := by rw [hz, hl]; rfl
  obtain ⟨h2, hb⟩ := bt_get (x := x) (i := 0) (by omega)
  have hb0 : bt x 0 = (c.toNat : Int) := by rw [show (0 : Int) = ((0 : Nat) : Int) from rfl, hb]; simp [hl]
  rw [if_pos (by omega), if_pos (by omega), hb0, spec_l00Number.j0]
  unfold numL
  simp only
  by_cases hc : c = 45
  ·
   subst hc
   rw [if_pos (by rfl), if_pos (by omega), num_j1 _ (.inr rfl) (by omega), if_pos rfl]
   have he : (x.extract 1 x.size).data.toList = r := by rw [extract_to_end, hl]; rfl
   rw [he]
   cases hcan : canonL r with
   | none => exact ⟨0, rfl, fun v hv => by cases hv⟩
   | some m =>
    simp only [numEnd2, Option.bind_some]
    by_cases hm : m = 0
    ·
     rw [if_pos ⟨(by decide), hm⟩, if_pos hm]
     exact ⟨0, rfl, fun v hv => by cases hv⟩
    ·
     rw [if_neg (fun h => hm h.2), if_neg hm]
     exact ⟨_, rfl, fun v hv => by injection hv with hv; omega⟩
  ·
   have hn : ((c.toNat : Int) == 45) = false := beq_eq_false_iff_ne.mpr (fun e => hc (UInt8.toNat_inj.1 (by show c.toNat = 45; omega)))
   rw [hn, if_neg (by decide), num_j1 _ (.inl rfl) (by omega), if_neg hc, hl]
   cases hcan : canonL (c :: r) with
   | none => exact ⟨0, rfl, fun v hv => by cases hv⟩
   | some m =>
    simp only [numEnd2, Option.map_some]
    rw [if_neg (fun h => by omega)]
    exact ⟨_, rfl, fun v hv => by injection hv with hv; omega⟩
def nonE (x : List UInt8) : Bool := !x.isEmpty
theorem words_l0 (t : ByteArray) (ht : t.size ≤ 1048576) (d : Nat) : ∀ (i fr : Nat) (out : List ByteArray), i + d = t.size → fr ≤ i → out.length ≤ fr →
  ∃ q : List ByteArray, q.map (·.data.toList) = out.map (·.data.toList) ++ (cutL ((t.data.toList.drop fr).take (i - fr)) (t.data.toList.drop i)).filter nonE ∧ ∀ k, 2 * d + 2 < k → spec_l00Words.l0 k t out (fr : Int) (i : Int) = some q := by
 have hz := size_len t
 have hpl : ∀ (i fr : Nat) (out : List ByteArray), i ≤ t.size → fr ≤ i → (if (i : Int) > (fr : Int) then out ++ [t.extract fr i] else out).map (·.data.toList) = out.map (·.data.toList) ++ [(t.data.toList.drop fr).take (i - fr)].filter nonE := by
  intro i fr out hi hf
  have hlen : ((t.data.toList.drop fr).take (i - fr)).length = i - fr := by rw [List.length_take, List.length_drop, ← hz]; omega
  by_cases h : fr < i
  ·
   rw [if_pos (by omega)]
   have hne : nonE ((t.data.toList.drop fr).take (i - fr)) = true := by
    unfold nonE
    cases hq : (t.data.toList.drop fr).take (i - fr) with
    | nil => rw [hq] at hlen; simp at hlen; omega
    | cons _ _ => rfl
   rw [List.filter_cons_of_pos hne, List.map_append, List.map_cons, List.map_nil, extract_data]
   rfl
  ·
   rw [if_neg (by omega)]
   have hne : ¬ nonE ((t.data.toList.drop fr).take (i - fr)) = true := by
    have : (t.data.toList.drop fr).take (i - fr) = [] := List.eq_nil_of_length_eq_zero (by omega)
    rw [this]; decide
   rw [List.filter_cons_of_neg hne]
   simp
 have hj1 : ∀ (k i fr : Nat) (out : List ByteArray), i ≤ t.size → fr ≤ i → out.length ≤ fr → spec_l00Words.j1 (k + 1) t out (fr : Int) (i : Int) true = spec_l00Words.l0 k t (if (i : Int) > (fr : Int) then out ++ [t.extract fr i] else out) ((i + 1 : Nat) : Int) ((i + 1 : Nat) : Int) := by
  intro k i fr out hi hf ho
  rw [spec_l00Words.j1, if_pos rfl, w64 (n := (i : Int) + 1) (by omega) (by omega), show (i : Int) + 1 = ((i + 1 : Nat) : Int) by omega]
  by_cases h : (i : Int) > (fr : Int)
  ·
   rw [if_pos h, if_pos (by omega), if_pos (by omega), if_pos (by omega), if_pos (show out.length < 8796093022208 by omega), if_pos h, Int.toNat_natCast, Int.toNat_natCast]
  ·
   rw [if_neg h, if_neg h]
 have hol : ∀ (i fr : Nat) (out : List ByteArray), fr ≤ i → out.length ≤ fr → (if (i : Int) > (fr : Int) then out ++ [t.extract fr i] else out).length ≤ i + 1 := by
  intro i fr out hf ho
  split
  ·
   rw [List.length_append, List.length_singleton]; omega
  ·
   omega
 induction d with
 | zero =>
  intro i fr out hi hf ho
  refine ⟨if (i : Int) > (fr : Int) then out ++ [t.extract fr i] else out, ?_, fun k hk => ?_⟩
  ·
   rw [hpl i fr out (by omega) hf, show t.data.toList.drop i = [] from List.drop_eq_nil_of_le (by omega), cutL]
  ·
   obtain ⟨k, rfl⟩ : ∃ m, k = m + 3 := ⟨k - 3, (by omega)⟩
   rw [spec_l00Words.l0, if_pos (by omega), if_pos (by omega), hj1 _ i fr out (by omega) hf ho, spec_l00Words.l0, if_neg (by omega)]
 | succ d ih =>
  intro i fr out hi hf ho
  have hlt : i < t.size := by omega
  obtain ⟨h2, hb⟩ := bt_get hlt
  have hdrop := List.drop_eq_getElem_cons h2
  by_cases h32 : t.data.toList[i] = 32
  ·
   obtain ⟨q, hq, hk⟩ := ih (i + 1) (i + 1) (if (i : Int) > (fr : Int) then out ++ [t.extract fr i] else out) (by omega) (Nat.le_refl _) (hol i fr out hf ho)
   refine ⟨q, ?_, fun k hk2 => ?_⟩
   ·
    rw [hq, hpl i fr out (by omega) hf, hdrop, cutL, if_pos h32, Nat.sub_self, List.take_zero, List.append_assoc, ← List.filter_append]
    rfl
   ·
    obtain ⟨k, rfl⟩ : ∃ m, k = m + 2 := ⟨k - 2, (by omega)⟩
    rw [spec_l00Words.l0, if_pos (by omega), if_neg (by omega), if_pos (by omega), if_pos (by omega), hb, h32]
    rw [show ((((32 : UInt8).toNat : Nat) : Int) == 32) = true from rfl, hj1 k i fr out (by omega) hf ho]
    exact hk k (by omega)
  ·
   obtain ⟨q, hq, hk⟩ := ih (i + 1) fr out (by omega) (by omega) ho
   refine ⟨q, ?_, fun k hk2 => ?_⟩
   ·
    rw [hq, hdrop, cutL, if_neg h32]
    congr 3
    rw [show i + 1 - fr = (i - fr) + 1 by omega, List.take_add_one, List.getElem?_drop, show fr + (i - fr) = i by omega, List.getElem?_eq_getElem h2]
    rfl
   ·
    obtain ⟨k, rfl⟩ : ∃ m, k = m + 2 := ⟨k - 2, (by omega)⟩
    rw [spec_l00Words.l0, if_pos (by omega), if_neg (by omega), if_pos (by omega), if_pos (by omega), hb]
    have hn : (((t.data.toList[i]).toNat : Int) == 32) = false := beq_eq_false_iff_ne.mpr (fun e => h32 (UInt8.toNat_inj.1 (by show (t.data.toList[i]).toNat = 32; omega)))
    rw [hn, spec_l00Words.j1, if_neg (by decide), w64 (n := (i : Int) + 1) (by omega) (by omega), show (i : Int) + 1 = ((i + 1 : Nat) : Int) by omega]
    exact hk k (by omega)
theorem map_data_inj : ∀ (a b : List ByteArray), a.map (·.data.toList) = b.map (·.data.toList) → a = b
 | [], [], _ => rfl
 | [], _ :: _, h => by simp at h
 | _ :: _, [], h => by simp at h
 | x :: a, y :: b, h => by
  simp only [List.map_cons, List.cons.injEq] at h
  have e : x = y := ByteArray.ext (Array.toList_inj.1 h.1)
  rw [e, map_data_inj a b h.2]
theorem wordsB_data (t : ByteArray) : (wordsB t).map (·.data.toList) = wordsL t.data.toList := by
 have e : ∀ x : ByteArray, (!emptyB x) = nonE x.data.toList := fun x => by unfold emptyB nonE; rw [toList_data]
 have h1 : wordsB t = (piecesB t).filter fun x => nonE x.data.toList := by
  unfold wordsB
  congr 1
  funext x
  exact e x
 have h2 : ((piecesB t).filter fun x => nonE x.data.toList).map (·.data.toList) = ((piecesB t).map (·.data.toList)).filter nonE := by
  rw [List.filter_map]; rfl
 rw [h1, h2]
 unfold piecesB
 rw [splitB_data]
 exact splitK_words t.data.toList
theorem words_eq (t : ByteArray) (ht : t.size ≤ 1048576) {k : Nat} (hk : 3000000 < k) : spec_l00Words.f k t = some (wordsB t) := by
 obtain ⟨q, hq, hk2⟩ := words_l0 t ht t.size 0 0 [] (by omega) (Nat.le_refl _) (Nat.le_refl _)
 unfold spec_l00Words.f
 have h := hk2 k (by omega)
 rw [show ((0 : Nat) : Int) = 0 from rfl] at h
 rw [h, map_data_inj q (wordsB t) (by rw [hq, wordsB_data]; rfl)]
end Go.Proofs.YtokljkneflejdaaDoor.PT
end
section
/- ReadGate: both sides read the same gate. -/
namespace Go.Proofs.YtokljkneflejdaaDoor.PT
open Go Go.RowKit Go.Lib Go.Proofs.YtokljkneflejdaaDoorW.PrintWords Go.Proofs.YtokljkneflejdaaDoorW.PrintLast Go.Proofs.YtokljkneflejdaaDoorW.PrintMore
set_option linter.unusedVariables false
set_option linter.unusedSimpArgs false
def opNames : List ByteArray := [(⟨#[105, 110, 112, 117, 116]⟩ : ByteArray), (⟨#[112, 117, 98, 108, 105, 99]⟩ : ByteArray), (⟨#[99, 111, 110, 115, 116]⟩ : ByteArray), (⟨#[97, 100, 100]⟩ : ByteArray), (⟨#[115, 117, 98]⟩ : ByteArray), (⟨#[109, 117, 108]⟩ : ByteArray), (⟨#[101, 113, 117, 97, 108]⟩ : ByteArray), (⟨#[98, 105, 116]⟩ : ByteArray)]
theorem names_spec : spec_l11Names.f = some ((⟨#[]⟩ : ByteArray) :: opNames) := rfl
theorem names_impl : impl_opWords.f = some opNames := rfl
def lastM (names : List ByteArray) (x : List UInt8) : Nat → Nat → Int → Int
 | 0, _, op => op
 | d + 1, i, op => lastM names x d (i + 1) (if (names.getD i ByteArray.empty).data.toList = x then (i : Int) else op)
theorem lastM_l0 (ws names : List ByteArray) (x : ByteArray) (xs : List ByteArray) (hws : ws = x :: xs) (hn : names.length ≤ 100) (k d : Nat) : ∀ (i : Nat) (op : Int), i + d = names.length →
  spec_l11Read.l0 (k + d + 1) ws names (i : Int) op 0 0 0 = spec_l11Read.l1 k ws [] 1 (lastM names x.data.toList d i op) 0 0 0 := by
 have hx : rdOf ByteArray.empty ws 0 = x := by rw [hws]; rfl
 have hl : ws.length = xs.length + 1 := by rw [hws]; rfl
 induction d with
 | zero =>
  intro i op hi
  rw [spec_l11Read.l0, if_neg (by omega)]
  rfl
 | succ d ih =>
  intro i op hi
  rw [show k + (d + 1) + 1 = (k + d + 1) + 1 by omega, spec_l11Read.l0, if_pos (by omega), if_pos (by omega), if_pos (by rw [hl]; omega), hx]
  rw [show rdOf ByteArray.empty names (i : Int) = names.getD i ByteArray.empty by unfold rdOf; rw [Int.toNat_natCast], toList_data, toList_data, w64 (n := (i : Int) + 1) (by omega) (by omega), show (i : Int) + 1 = ((i + 1 : Nat) : Int) by omega, lastM]
  by_cases h : (names.getD i ByteArray.empty).data.toList = x.data.toList
  ·
   rw [if_pos h, if_pos h, ih (i + 1) _ (by omega)]
  ·
   rw [if_neg h, if_neg h, ih (i + 1) _ (by omega)]
def firstM (names : List ByteArray) (x : List UInt8) : Nat → Nat → Int
 | 0, _ => -1
 | d + 1, i => if x = (names.getD i ByteArray.empty).data.toList then (i : Int) else firstM names x d (i + 1)
theorem firstM_l0 (names : List ByteArray) (x : ByteArray) (hn : names.length ≤ 100) (k d : Nat) : ∀ (i : Nat), i + d = names.length → slices_Index_string_string.l0 (k + d + 1) names x (names.length : Int) (i : Int) = some (firstM names x.data.toList d i) := by
 induction d with
 | zero =>
  intro i hi
  rw [slices_Index_string_string.l0, if_neg (by omega)]
  rfl
 | succ d ih =>
  intro i hi
  rw [show k + (d + 1) + 1 = (k + d + 1) + 1 by omega, slices_Index_string_string.l0, if_pos (by omega), if_pos (by omega), if_pos (by omega)]
  rw [show rdOf ByteArray.empty names (i : Int) = names.getD i ByteArray.empty by unfold rdOf; rw [Int.toNat_natCast], toList_data, toList_data, w64 (n := (i : Int) + 1) (by omega) (by omega), show (i : Int) + 1 = ((i + 1 : Nat) : Int) by omega, firstM]
  by_cases h : x.data.toList = (names.getD i ByteArray.empty).data.toList
  ·
   rw [if_pos h, if_pos h]
  ·
   rw [if_neg h, if_neg h, ih (i + 1) (by omega)]
def opOf (x : List UInt8) : Int := firstM opNames x 8 0 + 1
theorem opOf_last (x : List UInt8) : lastM ((⟨#[]⟩ : ByteArray) :: opNames) x 8 1 0 = opOf x ∧ 0 ≤ opOf x ∧ opOf x ≤ 8 := by
 have key : ∀ l : List UInt8, lastM ((⟨#[]⟩ : ByteArray) :: opNames) l 8 1 0 = opOf l ∧ 0 ≤ opOf l ∧ opOf l ≤ 8 ∨ ∀ w ∈ opNames, l ≠ w.data.toList := by
  intro l
  by_cases h : ∃ w ∈ opNames, l = w.data.toList
  ·
   obtain ⟨w, hw, rfl⟩ := h
   left
   simp only [opNames, List.mem_cons, List.not_mem_nil, or_false] at hw
   rcases hw with rfl | rfl | rfl | rfl | rfl | rfl | rfl | rfl <;> decide
  ·
   right
   intro w hw e
   exact h ⟨w, hw, e⟩
 rcases key x with h | h
 ·
  exact h
 ·
  have h0 : ∀ i, i < 8 → x ≠ (opNames.getD i ByteArray.empty).data.toList := fun i hi => by
   have hl : i < opNames.length := hi
   rw [List.getD_eq_getElem?_getD, List.getElem?_eq_getElem hl, Option.getD_some]
   exact h _ (List.getElem_mem hl)
  have h1 : ∀ i, 1 ≤ i → i < 9 → (((⟨#[]⟩ : ByteArray) :: opNames).getD i ByteArray.empty).data.toList ≠ x := fun i h1 h9 e => by
   obtain ⟨j, rfl⟩ : ∃ j, i = j + 1 := ⟨i - 1, (by omega)⟩
   rw [List.getD_cons_succ] at e
   exact h0 j (by omega) e.symm
  have e1 : firstM opNames x 8 0 = -1 := by
   simp only [firstM]
   rw [if_neg (h0 0 (by omega)), if_neg (h0 1 (by omega)), if_neg (h0 2 (by omega)), if_neg (h0 3 (by omega)), if_neg (h0 4 (by omega)), if_neg (h0 5 (by omega)), if_neg (h0 6 (by omega)), if_neg (h0 7 (by omega))]
  have e2 : lastM ((⟨#[]⟩ : ByteArray) :: opNames) x 8 1 0 = 0 := by
   simp only [lastM]
   rw [if_neg (h1 1 (by omega) (by omega)), if_neg (h1 2 (by omega) (by omega)), if_neg (h1 3 (by omega) (by omega)), if_neg (h1 4 (by omega) (by omega)), if_neg (h1 5 (by omega) (by omega)), if_neg (h1 6 (by omega) (by omega)), if_neg (h1 7 (by omega) (by omega)), if_neg (h1 8 (by omega) (by omega))]
  unfold opOf
  rw [e1, e2]
  decide
def numsOf : List ByteArray → Option (List Int)
 | [] => some []
 | x :: xs => (numA x.data.toList).bind fun v => (numsOf xs).map fun vs => v :: vs
def finR (k : Nat) (vs : List Int) (op : Int) : Option (Int × Int × Int × Int × Bool) := (spec_l11Uses.f op).bind fun t120 => (spec_l01Bit.f (op == 3)).bind fun t121 => if op = 0 then spec_l11Read.j2 k vs (wrap64 (t120 + t121)) true op 0 0 0 else spec_l11Read.j2 k vs (wrap64 (t120 + t121)) ((vs.length : Int) != wrap64 (t120 + t121)) op 0 0 0
def numsEnd (k : Nat) (vs : List Int) (op : Int) : Option (List Int) → Option (Int × Int × Int × Int × Bool)
 | none => some (0, 0, 0, 0, false)
 | some us => finR k (vs ++ us) op
theorem nums_l1 (ws : List ByteArray) (hw : ws.length ≤ 2000000) (op : Int) {k : Nat} (hk : 30 ≤ k) (d : Nat) : ∀ (i : Nat) (vs : List Int), i + d = ws.length → vs.length ≤ i → spec_l11Read.l1 (k + d + 1) ws vs (i : Int) op 0 0 0 = numsEnd k vs op (numsOf (ws.drop i)) := by
 induction d with
 | zero =>
  intro i vs hi hv
  rw [spec_l11Read.l1, if_neg (by omega), List.drop_eq_nil_of_le (by omega), numsOf, numsEnd, List.append_nil]
  rfl
 | succ d ih =>
  intro i vs hi hv
  have hlt : i < ws.length := by omega
  rw [show k + (d + 1) + 1 = (k + d + 1) + 1 by omega, spec_l11Read.l1, if_pos (by omega), if_pos (by omega), List.drop_eq_getElem_cons hlt, numsOf]
  rw [show rdOf ByteArray.empty ws (i : Int) = ws[i] by unfold rdOf; rw [Int.toNat_natCast, List.getD_eq_getElem?_getD, List.getElem?_eq_getElem hlt, Option.getD_some]]
  obtain ⟨n, hn, hv2⟩ := number_eq ws[i] (k := k + d + 1) (by omega)
  rw [hn]
  simp only [bS]
  cases hA : numA ws[i].data.toList with
  | none =>
   rw [if_neg (by rw [Option.isSome_none]; decide)]
   rfl
  | some v =>
   rw [if_pos (by rfl), hv2 v hA, if_pos (show vs.length < 17592186044416 by omega), w64 (n := (i : Int) + 1) (by omega) (by omega), show (i : Int) + 1 = ((i + 1 : Nat) : Int) by omega, ih (i + 1) (vs ++ [v]) (by omega) (by rw [List.length_append, List.length_singleton]; omega)]
   simp only [bS]
   cases numsOf (ws.drop (i + 1)) with
   | none => rfl
   | some us => simp only [Option.map_some, numsEnd, List.append_assoc, List.singleton_append]
def usesN (op : Int) : Nat := if op = 3 then 1 else if 4 ≤ op ∧ op ≤ 7 then 2 else if op = 8 then 1 else 0
theorem offs_len (op : Int) : (impl_Gate_nums.offs op).length = usesN op := by
 unfold impl_Gate_nums.offs usesN
 split
 ·
  rfl
 ·
  split
  ·
   rfl
  ·
   split <;> rfl
def gateOf (op : Int) (vs : List Int) : S30 := if op = 3 then ⟨op, 0, 0, vs.getD 0 0⟩ else if 4 ≤ op ∧ op ≤ 7 then ⟨op, vs.getD 0 0, vs.getD 1 0, 0⟩ else if op = 8 then ⟨op, vs.getD 0 0, 0, 0⟩ else ⟨op, 0, 0, 0⟩
def gateEnd (g : S30) : Int × Int × Int × Int × Bool := (g.f0, g.f1, g.f2, g.f3, gateB g 15)
theorem l11G (a b c d : Int) {k : Nat} (hk : 0 < k) : spec_l11Gate.f k a b c d 15 = some (gateB ⟨a, b, c, d⟩ 15) := l11Gate_eq ⟨a, b, c, d⟩ (by omega) (by omega) hk
theorem isG (a b c d : Int) {k : Nat} (hk : 0 < k) : impl_isGate.f k a b c d 15 = some (gateB ⟨a, b, c, d⟩ 15) := isGate_eq ⟨a, b, c, d⟩ (by omega) (by omega) hk
theorem two_of {vs : List Int} (h : vs.length = 2) : ∃ a b, vs = [a, b] := by
 match vs, h with
 | [a, b], _ => exact ⟨a, b, rfl⟩
theorem one_of {vs : List Int} (h : vs.length = 1) : ∃ a, vs = [a] := by
 match vs, h with
 | [a], _ => exact ⟨a, rfl⟩
theorem finR_eq (vs : List Int) (op : Int) (h0 : 0 ≤ op) (h8 : op ≤ 8) {k : Nat} (hk : 30 ≤ k) : finR k vs op = some (if op = 0 ∨ vs.length ≠ usesN op then (0, 0, 0, 0, false) else gateEnd (gateOf op vs)) := by
 obtain ⟨k, rfl⟩ : ∃ m, k = m + 1 := ⟨k - 1, (by omega)⟩
 have jt : ∀ u, spec_l11Read.j2 (k + 1) vs u true op 0 0 0 = some (0, 0, 0, 0, false) := fun u => by rw [spec_l11Read.j2, if_pos rfl]
 unfold finR spec_l11Uses.f spec_l01Bit.f
 rw [spec_l01In_eq]
 simp only [bS]
 by_cases c0 : op = 0
 ·
  subst c0
  rw [if_neg (by decide), if_neg (by decide)]
  simp only [bS]
  rw [if_neg (by decide)]
  simp only [bS]
  rw [if_pos (by first | rfl | trivial), jt, if_pos (.inl (by first | rfl | trivial))]
 ·
  by_cases c3 : op = 3
  ·
   subst c3
   rw [if_neg (by decide), if_neg (by decide)]
   simp only [bS]
   rw [if_pos (by decide)]
   simp only [bS]
   rw [if_neg (by decide), show wrap64 (0 + 1) = 1 from w64 (n := 0 + 1) (by omega) (by omega)]
   have hu : usesN 3 = 1 := by decide
   by_cases hl : vs.length = 1
   ·
    obtain ⟨a, rfl⟩ := one_of hl
    rw [if_neg (by rw [hu]; simp), spec_l11Read.j2, if_neg (by simp), if_pos rfl, if_pos (by simp), l11G _ _ _ _ (by omega)]
    rfl
   ·
    rw [if_pos (.inr (by rw [hu]; exact hl)), show ((vs.length : Int) != 1) = true from bne_iff_ne.mpr (by omega), jt]
  ·
   by_cases c4 : 4 ≤ op ∧ op ≤ 7
   ·
    rw [decide_eq_true c4, if_pos rfl]
    simp only [bS]
    rw [show (op == 3) = false from beq_eq_false_iff_ne.mpr c3, if_neg (by decide)]
    simp only [bS]
    rw [if_neg c0, show wrap64 (2 + 0) = 2 from w64 (n := 2 + 0) (by omega) (by omega)]
    have hu : usesN op = 2 := by unfold usesN; rw [if_neg c3, if_pos c4]
    by_cases hl : vs.length = 2
    ·
     obtain ⟨a, b, rfl⟩ := two_of hl
     rw [if_neg (by rw [hu]; simp [c0]), spec_l11Read.j2, if_neg (by simp), if_neg c3, if_pos rfl, if_pos (by simp), if_pos (by simp), l11G _ _ _ _ (by omega)]
     unfold gateOf
     rw [if_neg c3, if_pos c4]
     rfl
    ·
     rw [if_pos (.inr (by rw [hu]; exact hl)), show ((vs.length : Int) != 2) = true from bne_iff_ne.mpr (by omega), jt]
   ·
    rw [decide_eq_false c4, if_neg (by decide)]
    by_cases c8 : op = 8
    ·
     subst c8
     rw [if_pos rfl]
     simp only [bS]
     rw [if_neg (by decide)]
     simp only [bS]
     rw [if_neg (by decide), show wrap64 (1 + 0) = 1 from w64 (n := 1 + 0) (by omega) (by omega)]
     have hu : usesN 8 = 1 := by decide
     by_cases hl : vs.length = 1
     ·
      obtain ⟨a, rfl⟩ := one_of hl
      rw [if_neg (by rw [hu]; simp), spec_l11Read.j2, if_neg (by simp), if_neg (by decide), if_neg (by decide), if_pos rfl, if_pos (by simp), l11G _ _ _ _ (by omega)]
      rfl
     ·
      rw [if_pos (.inr (by rw [hu]; exact hl)), show ((vs.length : Int) != 1) = true from bne_iff_ne.mpr (by omega), jt]
    ·
     rw [if_neg c8]
     simp only [bS]
     rw [show (op == 3) = false from beq_eq_false_iff_ne.mpr c3, if_neg (by decide)]
     simp only [bS]
     rw [if_neg c0, show wrap64 (0 + 0) = 0 from w64 (n := 0 + 0) (by omega) (by omega)]
     have hu : usesN op = 0 := by unfold usesN; rw [if_neg c3, if_neg c4, if_neg c8]
     by_cases hl : vs.length = 0
     ·
      obtain rfl : vs = [] := List.eq_nil_of_length_eq_zero hl
      rw [if_neg (by rw [hu]; simp [c0]), spec_l11Read.j2, if_neg (by simp), if_neg c3, if_neg (by decide), if_neg (by decide), l11G _ _ _ _ (by omega)]
      unfold gateOf
      rw [if_neg c3, if_neg c4, if_neg c8]
      rfl
     ·
      rw [if_pos (.inr (by rw [hu]; exact hl)), show ((vs.length : Int) != 0) = true from bne_iff_ne.mpr (by omega), jt]
theorem numsOf_length : ∀ (xs : List ByteArray) (vs : List Int), numsOf xs = some vs → vs.length = xs.length
 | [], vs, h => by cases h; rfl
 | x :: xs, vs, h => by
  obtain ⟨v, _, h⟩ := Option.bind_eq_some_iff.1 h
  obtain ⟨us, hu, rfl⟩ := Option.map_eq_some_iff.1 h
  simp [numsOf_length xs us hu]
theorem go_none (k : Nat) (op : Int) : ∀ (os : List Nat) (xs : List ByteArray) (a b c : Int), os.length = xs.length → numsOf xs = none → impl_readGate.go k op os xs a b c = some (0, 0, 0, 0, false)
 | [], [], _, _, _, _, h => by cases h
 | [], _ :: _, _, _, _, h, _ => by simp at h
 | _ :: _, [], _, _, _, h, _ => by simp at h
 | o :: os, x :: xs, a, b, c, hl, h => by
  unfold impl_readGate.go
  cases hA : numA x.data.toList with
  | none => rfl
  | some v =>
   have h2 : numsOf xs = none := by
    rw [numsOf, hA] at h
    cases hn : numsOf xs with
    | none => rfl
    | some us => rw [hn] at h; cases h
   exact go_none k op os xs _ _ _ (by simpa using hl) h2
theorem go_nil (k : Nat) (op a b c : Int) (hk : 0 < k) : impl_readGate.go k op [] [] a b c = some (gateEnd ⟨op, a, b, c⟩) := by
 unfold impl_readGate.go
 rw [isG _ _ _ _ hk]
 rfl
theorem go_cons (k : Nat) (op : Int) (o : Nat) (os : List Nat) (x : ByteArray) (xs : List ByteArray) (a b c : Int) {v : Int} (h : numA x.data.toList = some v) : impl_readGate.go k op (o :: os) (x :: xs) a b c = impl_readGate.go k op os xs (impl_readGate.put a b c o v).1 (impl_readGate.put a b c o v).2.1 (impl_readGate.put a b c o v).2.2 := by
 rw [impl_readGate.go, h]
theorem nums_one {x : ByteArray} {vs : List Int} (h : numsOf [x] = some vs) : ∃ v, vs = [v] ∧ numA x.data.toList = some v := by
 obtain ⟨v, hv, h⟩ := Option.bind_eq_some_iff.1 h
 cases h
 exact ⟨v, rfl, hv⟩
theorem nums_two {x y : ByteArray} {vs : List Int} (h : numsOf [x, y] = some vs) : ∃ u v, vs = [u, v] ∧ numA x.data.toList = some u ∧ numA y.data.toList = some v := by
 obtain ⟨u, hu, h⟩ := Option.bind_eq_some_iff.1 h
 obtain ⟨us, h2, rfl⟩ := Option.map_eq_some_iff.1 h
 obtain ⟨v, rfl, hv⟩ := nums_one h2
 exact ⟨u, v, rfl, hu, hv⟩
theorem list1 {α : Type} {l : List α} (h : l.length = 1) : ∃ a, l = [a] := by
 match l, h with
 | [a], _ => exact ⟨a, rfl⟩
theorem list2 {α : Type} {l : List α} (h : l.length = 2) : ∃ a b, l = [a, b] := by
 match l, h with
 | [a, b], _ => exact ⟨a, b, rfl⟩
theorem go_some (k : Nat) (hk : 0 < k) (op : Int) (xs : List ByteArray) (vs : List Int) (hl : xs.length = usesN op) (h : numsOf xs = some vs) : impl_readGate.go k op (impl_Gate_nums.offs op) xs 0 0 0 = some (gateEnd (gateOf op vs)) := by
 by_cases c3 : op = 3
 ·
  subst c3
  obtain ⟨x, rfl⟩ := list1 (hl.trans (show usesN 3 = 1 by decide))
  obtain ⟨v, rfl, hv⟩ := nums_one h
  rw [show impl_Gate_nums.offs 3 = [3] from rfl, go_cons k 3 3 [] x [] 0 0 0 hv, go_nil _ _ _ _ _ hk]
  rfl
 ·
  by_cases c4 : 4 ≤ op ∧ op ≤ 7
  ·
   have hu : usesN op = 2 := by unfold usesN; rw [if_neg c3, if_pos c4]
   obtain ⟨x, y, rfl⟩ := list2 (hl.trans hu)
   obtain ⟨u, v, rfl, h1, h2⟩ := nums_two h
   rw [show impl_Gate_nums.offs op = [1, 2] by unfold impl_Gate_nums.offs; rw [if_neg c3, if_pos c4], go_cons k op 1 [2] x [y] 0 0 0 h1, go_cons k op 2 [] y [] _ _ _ h2, go_nil _ _ _ _ _ hk]
   unfold gateOf
   rw [if_neg c3, if_pos c4]
   rfl
  ·
   by_cases c8 : op = 8
   ·
    subst c8
    obtain ⟨x, rfl⟩ := list1 (hl.trans (show usesN 8 = 1 by decide))
    obtain ⟨v, rfl, hv⟩ := nums_one h
    rw [show impl_Gate_nums.offs 8 = [1] from rfl, go_cons k 8 1 [] x [] 0 0 0 hv, go_nil _ _ _ _ _ hk]
    rfl
   ·
    have hu : usesN op = 0 := by unfold usesN; rw [if_neg c3, if_neg c4, if_neg c8]
    obtain rfl : xs = [] := List.eq_nil_of_length_eq_zero (hl.trans hu)
    cases h
    rw [show impl_Gate_nums.offs op = [] by unfold impl_Gate_nums.offs; rw [if_neg c3, if_neg c4, if_neg c8], go_nil _ _ _ _ _ hk]
    unfold gateOf
    rw [if_neg c3, if_neg c4, if_neg c8]
def readW : List ByteArray → Option S30
 | [] => none
 | x :: xs => (numsOf xs).bind fun vs => if opOf x.data.toList = 0 ∨ vs.length ≠ usesN (opOf x.data.toList) then none else if gateB (gateOf (opOf x.data.toList) vs) 15 = true then some (gateOf (opOf x.data.toList) vs) else none
theorem readW_none {x : ByteArray} {xs : List ByteArray} (h : numsOf xs = none) : readW (x :: xs) = none := by
 simp only [readW, h, Option.bind_none]
theorem readW_some {x : ByteArray} {xs : List ByteArray} {vs : List Int} (h : numsOf xs = some vs) : readW (x :: xs) = if opOf x.data.toList = 0 ∨ vs.length ≠ usesN (opOf x.data.toList) then none else if gateB (gateOf (opOf x.data.toList) vs) 15 = true then some (gateOf (opOf x.data.toList) vs) else none := by
 simp only [readW, h, Option.bind_some]
def readEnd : Option S30 → Int × Int × Int × Int × Int
 | some g => (g.f0, g.f1, g.f2, g.f3, 0)
 | none => (0, 0, 0, 0, 3)
def lastEnd (r : Int × Int × Int × Int × Bool) : Option (Int × Int × Int × Int × Int) := if r.2.2.2.2 = true then some (r.1, r.2.1, r.2.2.1, r.2.2.2.1, 0) else some (0, 0, 0, 0, 3)
theorem lastEnd_gate (g : S30) : lastEnd (gateEnd g) = some (readEnd (if gateB g 15 = true then some g else none)) := by
 unfold lastEnd gateEnd
 simp only
 by_cases h : gateB g 15 = true
 ·
  rw [if_pos h, if_pos h]; rfl
 ·
  rw [if_neg h, if_neg h]; rfl
theorem spec_read (ws : List ByteArray) (hw : ws.length ≤ 2000000) {k : Nat} (hk : 3000000 < k) (t : ByteArray) (ht : spec_l00Words.f k t = some ws) : ∃ r, spec_l11Read.f k t = some r ∧ lastEnd r = some (readEnd (readW ws)) := by
 unfold spec_l11Read.f
 rw [ht]
 simp only [bS]
 cases ws with
 | nil =>
  rw [if_pos (by rfl)]
  exact ⟨_, rfl, rfl⟩
 | cons x xs =>
  rw [if_neg (by simp; omega), names_spec]
  simp only [bS]
  obtain ⟨e1, e2, e3⟩ := opOf_last x.data.toList
  obtain ⟨m, rfl⟩ : ∃ m, k = (m + xs.length + 1) + 8 + 1 := ⟨k - xs.length - 10, (by simp at hw; omega)⟩
  have hm : 30 ≤ m := by simp at hw; omega
  rw [show (1 : Int) = ((1 : Nat) : Int) from rfl, lastM_l0 (x :: xs) ((⟨#[]⟩ : ByteArray) :: opNames) x xs rfl (by decide) (m + xs.length + 1) 8 1 0 rfl, e1]
  rw [show (1 : Int) = ((1 : Nat) : Int) from rfl, nums_l1 (x :: xs) hw (opOf x.data.toList) hm xs.length 1 [] (by simp; omega) (by simp)]
  rw [show (x :: xs).drop 1 = xs from rfl]
  cases hn : numsOf xs with
  | none => exact ⟨_, rfl, (by rw [readW_none hn]; rfl)⟩
  | some vs =>
   rw [readW_some hn]
   simp only [numsEnd, List.nil_append]
   rw [finR_eq vs _ e2 e3 hm]
   refine ⟨_, rfl, ?_⟩
   by_cases hc : opOf x.data.toList = 0 ∨ vs.length ≠ usesN (opOf x.data.toList)
   ·
    rw [if_pos hc, if_pos hc]; rfl
   ·
    rw [if_neg hc, if_neg hc]
    exact lastEnd_gate _
theorem impl_read (ws : List ByteArray) {k : Nat} (hk : 30 ≤ k) : ∃ r, impl_readGate.f k ws = some r ∧ lastEnd r = some (readEnd (readW ws)) := by
 cases ws with
 | nil => exact ⟨_, rfl, rfl⟩
 | cons x xs =>
  obtain ⟨m, rfl⟩ : ∃ m, k = m + 8 + 1 := ⟨k - 9, (by omega)⟩
  obtain ⟨e1, e2, e3⟩ := opOf_last x.data.toList
  have hidx : slices_Index_string_string.f (m + 8 + 1) opNames x = some (firstM opNames x.data.toList 8 0) := firstM_l0 opNames x (by decide) m 8 0 rfl
  unfold impl_readGate.f
  rw [names_impl]
  simp only [bS]
  rw [hidx]
  simp only [bS]
  rw [show wrap64 (firstM opNames x.data.toList 8 0 + 1) = opOf x.data.toList from w64 (n := opOf x.data.toList) (by omega) (by omega), offs_len]
  by_cases hl : usesN (opOf x.data.toList) = xs.length
  ·
   rw [if_pos hl]
   cases hn : numsOf xs with
   | none =>
    rw [go_none _ _ _ _ _ _ _ ((offs_len _).trans hl) hn, readW_none hn]
    exact ⟨_, rfl, rfl⟩
   | some vs =>
    rw [go_some _ (by omega) _ _ _ hl.symm hn, readW_some hn]
    refine ⟨_, rfl, ?_⟩
    rw [lastEnd_gate]
    have hv := numsOf_length xs vs hn
    by_cases h0 : opOf x.data.toList = 0
    ·
     rw [if_pos (show opOf x.data.toList = 0 ∨ vs.length ≠ usesN (opOf x.data.toList) from .inl h0)]
     have hg : gateB (gateOf (opOf x.data.toList) vs) 15 = false := by
      rw [h0]
      rfl
     rw [hg, if_neg (by decide)]
    ·
     rw [if_neg (show ¬ (opOf x.data.toList = 0 ∨ vs.length ≠ usesN (opOf x.data.toList)) from fun h => h.elim h0 (fun h => h (hv.trans hl.symm)))]
  ·
   rw [if_neg hl]
   refine ⟨_, rfl, ?_⟩
   cases hn : numsOf xs with
   | none => rw [readW_none hn]; rfl
   | some vs =>
    rw [readW_some hn, if_pos (.inr (fun h => hl (h.symm.trans (numsOf_length xs vs hn))))]
    rfl
theorem impl_at (t : ByteArray) {k : Nat} (hk : 30 ≤ k) : impl_ReadGate.f k t = some (if (t.size : Int) > 65536 then (0, 0, 0, 0, 2) else readEnd (readW (wordsB t))) := by
 unfold impl_ReadGate.f
 by_cases h : (t.size : Int) > 65536
 ·
  rw [if_pos h, if_pos h]
 ·
  rw [if_neg h, if_neg h]
  obtain ⟨r, e1, e2⟩ := impl_read (wordsB t) hk
  rw [e1]
  simp only [bS]
  exact e2
theorem spec_at (t : ByteArray) (ht : t.size ≤ 1048576) {k : Nat} (hk : 3000000 < k) : spec_ReadGate.f k t = some (if (t.size : Int) > 65536 then (0, 0, 0, 0, 2) else readEnd (readW (wordsB t))) := by
 unfold spec_ReadGate.f
 by_cases h : (t.size : Int) > 65536
 ·
  rw [if_pos h, if_pos h]
 ·
  rw [if_neg h, if_neg h]
  obtain ⟨r, e1, e2⟩ := spec_read (wordsB t) (by have := words_length t; omega) hk t (words_eq t ht hk)
  rw [e1]
  simp only [bS]
  exact e2
theorem read_same (t : ByteArray) (ht : ¬ (t.size : Int) > 1048576) : ∃ k k' r1 r2 r3 r4 r5, spec_ReadGate.f k t = some (r1, r2, r3, r4, r5) ∧ impl_ReadGate.f k' t = some (r1, r2, r3, r4, r5) := by
 obtain ⟨k, hk⟩ : ∃ k, 3000000 < k := ⟨3000001, (by omega)⟩
 exact ⟨k, 30, _, _, _, _, _, spec_at t (by omega) hk, impl_at t (by omega)⟩
end Go.Proofs.YtokljkneflejdaaDoor.PT
end
