/- Part 3 of the proof of FnExactCountOf: what functions compute, shown step by step, and what that says (the claim's last text states the law). -/
import Derived.Test.YtegdgjnpfifofaaProg
import Derived.Test.YtegdgjnpfifofaaWMore
import Derived.Test.YtegdgjnpfifofaaWWords
import Derived.Test.YtegdgjnpfifofaaWLast
import Derived.Test.YtegdgjnpfifofaaWTab
import Derived.Test.YtegdgjnpfifofaaWFour
import Derived.Test.YtegdgjnpfifofaaWQPut
import Derived.Test.YtegdgjnpfifofaaWApart
import Derived.Test.YtegdgjnpfifofaaWArr
import Derived.Test.YtegdgjnpfifofaaWZeros
import Derived.Test.YtegdgjnpfifofaaWFoot
import Derived.Test.YtegdgjnpfifofaaWKept
import Derived.Test.YtegdgjnpfifofaaWShare
import Derived.Test.YtegdgjnpfifofaaWN
import Derived.Test.YtegdgjnpfifofaaWFootNe
import Derived.Test.YtegdgjnpfifofaaWAt
import Derived.Test.YtegdgjnpfifofaaWEqStruct
import Derived.Test.YtegdgjnpfifofaaWRepsOne
import Derived.Test.YtegdgjnpfifofaaWInv
import Derived.Test.YtegdgjnpfifofaaWInvWords
import Derived.Test.YtegdgjnpfifofaaWGuard
import Derived.Test.YtegdgjnpfifofaaWNEv
import Derived.Test.YtegdgjnpfifofaaRows
import Derived.JoinedOf
import Derived.WalkKit
import Derived.ProofKit
import Derived.Below
import Derived.Deep.Draws
import Derived.Deep.AppendLies
import Derived.Maps.AppendAt
import Derived.OwnWalk
import Derived.Laws.BytesArg
import Derived.Laws.MakeOwn
import Derived.Laws.OwnMore
import Derived.Deep.OwnRows
import Derived.Tactics
import Derived.Lib.ConvBytes
import Derived.Laws.Slices
import Derived.KernelRfl
import Derived.RowKit3
import Derived.Deep.LoopGhost
import Derived.Deep.QuietTactic
import Derived.BigQuiet
import Derived.WideLaws
import Derived.Deep.DeepCutAuto
import Derived.Deep.CutBlock
import Derived.Deep.RegionHeld3
import Derived.Laws.Rows
import Derived.Lib.AppendStr
import Derived.ArgAppend
import Derived.Laws.IdiomCopy
import Derived.OrdersHeld
import Derived.Laws.BitsLemmas
import Derived.RowKit
import Derived.OpenShut
import Derived.ShutString
import Derived.ChangeOld
import Derived.SizedLaws
import Derived.Deep.Slices
import Derived.ChangeArms
import Derived.Test.YtegdgjnpfifofaaZFnExactCountOf2
section
namespace Go.Proofs.Ytegdgjnpfifofaa.PT
open Go.RowKit Go.Proofs.YtegdgjnpfifofaaW.PrintWords Go.Proofs.YtegdgjnpfifofaaW.PrintLast Go.Proofs.YtegdgjnpfifofaaW.PrintMore
attribute [local go_sem] max2_int min2_int max_two min_two max_three min_three max_four min_four   -- for this text's walks alone
set_option linter.unusedVariables false
set_option linter.unusedSimpArgs false

/-! ### impl_CountOf: function 25 -/
def impl_CountOf.f (k : Nat) (l0_0 : List (S94)) (a1 : Int) : Option (Int × Int) := (impl_CircuitOK.f k l0_0).bind fun t102 => (if t102 = true then ((impl_in.f a1 1 8).bind fun t103 => (if t103 = true then ((impl_Circuit_countOf.f k l0_0 a1).bind fun t104 => (some (t104, 0))) else (some (0, 4)))) else (some (0, 19)))
theorem impl_CountOf.mono : ∀ a0 a1 k, LeO (impl_CountOf.f k a0 a1) (impl_CountOf.f (k + 1) a0 a1) := by
  intro a0 a1 k
  unfold impl_CountOf.f
  repeat' first
      | (with_reducible exact impl_CircuitOK.mono _ _)
      | (with_reducible exact impl_Circuit_countOf.mono _ _ _)
      | (with_reducible exact LeO.refl _)
      | (with_reducible exact LeO.none _)
      | (with_reducible refine LeO.ite ?_ ?_)
      | (with_reducible refine LeO.bind ?_ (fun _ => ?_))
      | exact impl_CircuitOK.mono _ _
      | exact impl_Circuit_countOf.mono _ _ _
      | exact LeO.none _
      | refine LeO.ite ?_ ?_
      | refine LeO.bind ?_ (fun _ => ?_)
set_option maxHeartbeats 8000000 in
set_option maxRecDepth 100000 in
theorem impl_CountOf.calls (k : Nat) (A0_0 : Option Addr) (c0_0 : Nat) (l0_0 : List (S94)) (a1 : Int) (r1 : Int) (r2 : Int) (w : World) (hr0_0 : Kd.C k94 w A0_0 l0_0.length l0_0) (hc0_0 : l0_0.length ≤ c0_0) (h : impl_CountOf.f k l0_0 a1 = some (r1, r2)) :
    Calls Try.prog 25 #[.agg #[.slice A0_0 l0_0.length c0_0], .int .i64 a1] w fun e w' => e = .returned (.tuple #[.int .i64 r1, .int .i64 r2]) ∧ Below w.heap.size w w' := by
  have hu29 := Try.underlying29
  have HR0_0 := Aside0.mk hr0_0
  have HC0_0 := Aside0.mk hc0_0
  clear hr0_0 hc0_0
  have HB := Aside0.mk (Below.refl w.heap.size w)
  have H : ((impl_CircuitOK.f k l0_0).bind fun t102 => (if t102 = true then ((impl_in.f a1 1 8).bind fun t103 => (if t103 = true then ((impl_Circuit_countOf.f k l0_0 a1).bind fun t104 => (some (t104, 0))) else (some (0, 4)))) else (some (0, 19)))) = some (r1, r2) := h
  clear h
  replace H := Option.bind_eq_some_iff.mp H
  obtain ⟨t102, A30, H⟩ := H
  replace H : (if t102 = true then ((impl_in.f a1 1 8).bind fun t103 => (if t103 = true then ((impl_Circuit_countOf.f k l0_0 a1).bind fun t104 => (some (t104, 0))) else (some (0, 4)))) else (some (0, 19))) = some (r1, r2) := H
  have A3 := Aside0.mk A30
  clear A30
  by_cases c4 : t102 = true
  · subst c4
    have H1 : ((impl_in.f a1 1 8).bind fun t103 => (if t103 = true then ((impl_Circuit_countOf.f k l0_0 a1).bind fun t104 => (some (t104, 0))) else (some (0, 4)))) = some (r1, r2) := by rw [if_pos rfl] at H; exact H
    clear H
    have H := H1
    clear H1
    replace H := Option.bind_eq_some_iff.mp H
    obtain ⟨t103, A50, H⟩ := H
    replace H : (if t103 = true then ((impl_Circuit_countOf.f k l0_0 a1).bind fun t104 => (some (t104, 0))) else (some (0, 4))) = some (r1, r2) := H
    have A5 := Aside0.mk A50
    clear A50
    by_cases c6 : t103 = true
    · subst c6
      have H1 : ((impl_Circuit_countOf.f k l0_0 a1).bind fun t104 => (some (t104, 0))) = some (r1, r2) := by rw [if_pos rfl] at H; exact H
      clear H
      have H := H1
      clear H1
      replace H := Option.bind_eq_some_iff.mp H
      obtain ⟨t104, A70, H⟩ := H
      replace H : (some (t104, 0)) = some (r1, r2) := H
      have A7 := Aside0.mk A70
      clear A70
      simp only [Option.some.injEq, Prod.mk.injEq] at H
      obtain ⟨rfl, rfl⟩ := H
      go_enter Try.func25, Try.ntmps25
      go_wp2_with (first | ((with_reducible refine gate_dst (N := 2) rfl ?_); refine box_event ?hg (N := 2) ?hd (cs := #[.slice A0_0 l0_0.length c0_0]) (t := 29) ?hr ?_; (case hd => rfl); (case hg => rfl); (case hr => first | (go_simp; done) | (go_simp; rfl)); intro gb101 hg w8 hbox hb; have n0_ := Aside0.mk (below_step (by repeat (first | (with_reducible first | exact HB.out | apply below_alloc | apply pw_below_drewN | apply below_drew1) | exact HB.out)) hb); have n1_ := Aside0.mk (hbox); have n2_ := Aside0.mk ((by rw [hg]; exact (below_size (by repeat (first | (with_reducible first | exact HB.out | apply below_alloc | apply pw_below_drewN | apply below_drew1) | exact HB.out))) : w.heap.size ≤ gb101)); have n3_ := Aside0.mk ((by rw [hg]; exact (below_size (by repeat (first | (with_reducible first | exact HB.out | apply below_alloc | apply pw_below_drewN | apply below_drew1) | exact HB.out))) : w.heap.size ≤ gb101)); clear HB; have HB := n0_; have BK101 := n1_; have GW101 := n2_; have GE101 := n3_; clear n0_ n1_ n2_ n3_; clear hb hbox hg; have hcz9_0 : w8.cell? ⟨gb101, 0, none⟩ = some (.slice A0_0 l0_0.length c0_0) := (blk_cell BK101.out 0).trans rfl; have hfz9_0 := blk_frozen BK101.out 0) | ((with_reducible refine gate_callee (f := 17) rfl ?_); refine goesL_ (some 8) rfl rfl Try.func17 (by kernel_rfl) rfl #[.agg #[.slice A0_0 l0_0.length c0_0]] rfl (by (try simp only [List.map_toArray, List.map_cons, List.map_nil]); first | done | rfl | (simp only [List.length_drop, List.length_take]; rfl)) ?_; (with_reducible refine (impl_CircuitOK.calls k _ _ l0_0 true _ ?side1 ?side2 A3.out).mono ?_); (case side1 => repeat (first | exact (Kd.C_below HR0_0.out HB.out) | (with_reducible refine Kd.C_alloc ?_ _) | (with_reducible refine Kd.C_drewN ?_ _) | (with_reducible refine Kd.C_drew ?_))); (case side2 => exact HC0_0.out); rintro e w10 ⟨rfl, hb⟩; refine ⟨_, rfl, ?_⟩; have n0_ := Aside0.mk (blk_below (g := gb101) (o := .cells #[.slice A0_0 l0_0.length c0_0] 29 (0, 0)) (by (with_reducible repeat (first | refine blk_drewN ?_ _ | refine blk_drew ?_ | refine blk_alloc ?_ _)); exact BK101.out) hb); have n1_ := Aside0.mk (below_step (by repeat (first | (with_reducible first | exact HB.out | apply below_alloc | apply pw_below_drewN | apply below_drew1 | refine below_set ?_ GE101.out) | exact HB.out)) hb); clear BK101; clear HB; have BK101 := n0_; have HB := n1_; clear n0_ n1_; (try clear hb); (try clear hb2); (try clear hk); (try clear hi)) | ((with_reducible refine gate_callee (f := 65) rfl ?_); refine goesL_ (some 12) rfl rfl Try.func65 (by kernel_rfl) rfl #[.int .i64 a1, .int .i64 1, .int .i64 8] rfl (by (try simp only [List.map_toArray, List.map_cons, List.map_nil]); first | done | rfl | (simp only [List.length_drop, List.length_take]; rfl)) ?_; (with_reducible refine (impl_in.calls a1 1 8 true _ A5.out).mono ?_); rintro e w' ⟨rfl, ⟨nd, rfl⟩⟩; refine ⟨_, rfl, ?_⟩; have hcz11_0 : w10.cell? ⟨gb101, 0, none⟩ = some (.slice A0_0 l0_0.length c0_0) := (blk_cell BK101.out 0).trans rfl; have hfz11_0 := blk_frozen BK101.out 0) | ((with_reducible refine gate_callee (f := 67) rfl ?_); refine goesL_ (some 16) rfl rfl Try.func67 (by kernel_rfl) rfl #[.agg #[.slice A0_0 l0_0.length c0_0], .int .i64 a1] rfl (by (try simp only [List.map_toArray, List.map_cons, List.map_nil]); first | done | rfl | (simp only [List.length_drop, List.length_take]; rfl)) ?_; (with_reducible refine (impl_Circuit_countOf.calls k _ _ l0_0 a1 t104 _ ?side1 ?side2 A7.out).mono ?_); (case side1 => repeat (first | exact (Kd.C_below HR0_0.out (by repeat (first | (with_reducible first | exact HB.out | apply below_alloc | apply pw_below_drewN | apply below_drew1 | refine below_set ?_ GE101.out) | exact HB.out))) | (with_reducible refine Kd.C_alloc ?_ _) | (with_reducible refine Kd.C_drewN ?_ _) | (with_reducible refine Kd.C_drew ?_))); (case side2 => exact HC0_0.out); rintro e w12 ⟨rfl, hb⟩; refine ⟨_, rfl, ?_⟩; have n0_ := Aside0.mk (blk_below (g := gb101) (o := .cells #[.slice A0_0 l0_0.length c0_0] 29 (0, 0)) (by (with_reducible repeat (first | refine blk_drewN ?_ _ | refine blk_drew ?_ | refine blk_alloc ?_ _)); exact BK101.out) hb); have n1_ := Aside0.mk (below_step (by repeat (first | (with_reducible first | exact HB.out | apply below_alloc | apply pw_below_drewN | apply below_drew1 | refine below_set ?_ GE101.out) | exact HB.out)) hb); clear BK101; clear HB; have BK101 := n0_; have HB := n1_; clear n0_ n1_; (try clear hb); (try clear hb2); (try clear hk); (try clear hi)))
      go_ret2
      exact ⟨by first | rfl | (simp [errW_none, errW_some] <;> rfl) | (simp [*, errW_none, errW_some] <;> rfl), by repeat (first | (with_reducible first | exact HB.out | apply below_alloc | apply pw_below_drewN | apply below_drew1 | refine below_set ?_ GE101.out) | exact HB.out)⟩
    · replace c6 := Bool.eq_false_iff.mpr c6
      subst c6
      have H1 : (some (0, 4)) = some (r1, r2) := by rw [if_neg (show ¬ (false = true) by decide)] at H; exact H
      clear H
      have H := H1
      clear H1
      simp only [Option.some.injEq, Prod.mk.injEq] at H
      obtain ⟨rfl, rfl⟩ := H
      go_enter Try.func25, Try.ntmps25
      go_wp2_with (first | ((with_reducible refine gate_dst (N := 2) rfl ?_); refine box_event ?hg (N := 2) ?hd (cs := #[.slice A0_0 l0_0.length c0_0]) (t := 29) ?hr ?_; (case hd => rfl); (case hg => rfl); (case hr => first | (go_simp; done) | (go_simp; rfl)); intro gb101 hg w13 hbox hb; have n0_ := Aside0.mk (below_step (by repeat (first | (with_reducible first | exact HB.out | apply below_alloc | apply pw_below_drewN | apply below_drew1) | exact HB.out)) hb); have n1_ := Aside0.mk (hbox); have n2_ := Aside0.mk ((by rw [hg]; exact (below_size (by repeat (first | (with_reducible first | exact HB.out | apply below_alloc | apply pw_below_drewN | apply below_drew1) | exact HB.out))) : w.heap.size ≤ gb101)); have n3_ := Aside0.mk ((by rw [hg]; exact (below_size (by repeat (first | (with_reducible first | exact HB.out | apply below_alloc | apply pw_below_drewN | apply below_drew1) | exact HB.out))) : w.heap.size ≤ gb101)); clear HB; have HB := n0_; have BK101 := n1_; have GW101 := n2_; have GE101 := n3_; clear n0_ n1_ n2_ n3_; clear hb hbox hg; have hcz14_0 : w13.cell? ⟨gb101, 0, none⟩ = some (.slice A0_0 l0_0.length c0_0) := (blk_cell BK101.out 0).trans rfl; have hfz14_0 := blk_frozen BK101.out 0) | ((with_reducible refine gate_callee (f := 17) rfl ?_); refine goesL_ (some 8) rfl rfl Try.func17 (by kernel_rfl) rfl #[.agg #[.slice A0_0 l0_0.length c0_0]] rfl (by (try simp only [List.map_toArray, List.map_cons, List.map_nil]); first | done | rfl | (simp only [List.length_drop, List.length_take]; rfl)) ?_; (with_reducible refine (impl_CircuitOK.calls k _ _ l0_0 true _ ?side1 ?side2 A3.out).mono ?_); (case side1 => repeat (first | exact (Kd.C_below HR0_0.out HB.out) | (with_reducible refine Kd.C_alloc ?_ _) | (with_reducible refine Kd.C_drewN ?_ _) | (with_reducible refine Kd.C_drew ?_))); (case side2 => exact HC0_0.out); rintro e w15 ⟨rfl, hb⟩; refine ⟨_, rfl, ?_⟩; have n0_ := Aside0.mk (blk_below (g := gb101) (o := .cells #[.slice A0_0 l0_0.length c0_0] 29 (0, 0)) (by (with_reducible repeat (first | refine blk_drewN ?_ _ | refine blk_drew ?_ | refine blk_alloc ?_ _)); exact BK101.out) hb); have n1_ := Aside0.mk (below_step (by repeat (first | (with_reducible first | exact HB.out | apply below_alloc | apply pw_below_drewN | apply below_drew1 | refine below_set ?_ GE101.out) | exact HB.out)) hb); clear BK101; clear HB; have BK101 := n0_; have HB := n1_; clear n0_ n1_; (try clear hb); (try clear hb2); (try clear hk); (try clear hi)) | ((with_reducible refine gate_callee (f := 65) rfl ?_); refine goesL_ (some 12) rfl rfl Try.func65 (by kernel_rfl) rfl #[.int .i64 a1, .int .i64 1, .int .i64 8] rfl (by (try simp only [List.map_toArray, List.map_cons, List.map_nil]); first | done | rfl | (simp only [List.length_drop, List.length_take]; rfl)) ?_; (with_reducible refine (impl_in.calls a1 1 8 false _ A5.out).mono ?_); rintro e w' ⟨rfl, ⟨nd, rfl⟩⟩; refine ⟨_, rfl, ?_⟩))
      go_ret2
      exact ⟨by first | rfl | (simp [errW_none, errW_some] <;> rfl) | (simp [*, errW_none, errW_some] <;> rfl), by repeat (first | (with_reducible first | exact HB.out | apply below_alloc | apply pw_below_drewN | apply below_drew1 | refine below_set ?_ GE101.out) | exact HB.out)⟩
  · replace c4 := Bool.eq_false_iff.mpr c4
    subst c4
    have H1 : (some (0, 19)) = some (r1, r2) := by rw [if_neg (show ¬ (false = true) by decide)] at H; exact H
    clear H
    have H := H1
    clear H1
    simp only [Option.some.injEq, Prod.mk.injEq] at H
    obtain ⟨rfl, rfl⟩ := H
    go_enter Try.func25, Try.ntmps25
    go_wp2_with (first | ((with_reducible refine gate_dst (N := 2) rfl ?_); refine box_event ?hg (N := 2) ?hd (cs := #[.slice A0_0 l0_0.length c0_0]) (t := 29) ?hr ?_; (case hd => rfl); (case hg => rfl); (case hr => first | (go_simp; done) | (go_simp; rfl)); intro gb101 hg w16 hbox hb; have n0_ := Aside0.mk (below_step (by repeat (first | (with_reducible first | exact HB.out | apply below_alloc | apply pw_below_drewN | apply below_drew1) | exact HB.out)) hb); have n1_ := Aside0.mk (hbox); have n2_ := Aside0.mk ((by rw [hg]; exact (below_size (by repeat (first | (with_reducible first | exact HB.out | apply below_alloc | apply pw_below_drewN | apply below_drew1) | exact HB.out))) : w.heap.size ≤ gb101)); have n3_ := Aside0.mk ((by rw [hg]; exact (below_size (by repeat (first | (with_reducible first | exact HB.out | apply below_alloc | apply pw_below_drewN | apply below_drew1) | exact HB.out))) : w.heap.size ≤ gb101)); clear HB; have HB := n0_; have BK101 := n1_; have GW101 := n2_; have GE101 := n3_; clear n0_ n1_ n2_ n3_; clear hb hbox hg; have hcz17_0 : w16.cell? ⟨gb101, 0, none⟩ = some (.slice A0_0 l0_0.length c0_0) := (blk_cell BK101.out 0).trans rfl; have hfz17_0 := blk_frozen BK101.out 0) | ((with_reducible refine gate_callee (f := 17) rfl ?_); refine goesL_ (some 8) rfl rfl Try.func17 (by kernel_rfl) rfl #[.agg #[.slice A0_0 l0_0.length c0_0]] rfl (by (try simp only [List.map_toArray, List.map_cons, List.map_nil]); first | done | rfl | (simp only [List.length_drop, List.length_take]; rfl)) ?_; (with_reducible refine (impl_CircuitOK.calls k _ _ l0_0 false _ ?side1 ?side2 A3.out).mono ?_); (case side1 => repeat (first | exact (Kd.C_below HR0_0.out HB.out) | (with_reducible refine Kd.C_alloc ?_ _) | (with_reducible refine Kd.C_drewN ?_ _) | (with_reducible refine Kd.C_drew ?_))); (case side2 => exact HC0_0.out); rintro e w18 ⟨rfl, hb⟩; refine ⟨_, rfl, ?_⟩; have n0_ := Aside0.mk (blk_below (g := gb101) (o := .cells #[.slice A0_0 l0_0.length c0_0] 29 (0, 0)) (by (with_reducible repeat (first | refine blk_drewN ?_ _ | refine blk_drew ?_ | refine blk_alloc ?_ _)); exact BK101.out) hb); have n1_ := Aside0.mk (below_step (by repeat (first | (with_reducible first | exact HB.out | apply below_alloc | apply pw_below_drewN | apply below_drew1 | refine below_set ?_ GE101.out) | exact HB.out)) hb); clear BK101; clear HB; have BK101 := n0_; have HB := n1_; clear n0_ n1_; (try clear hb); (try clear hb2); (try clear hk); (try clear hi)))
    go_ret2
    exact ⟨by first | rfl | (simp [errW_none, errW_some] <;> rfl) | (simp [*, errW_none, errW_some] <;> rfl), by repeat (first | (with_reducible first | exact HB.out | apply below_alloc | apply pw_below_drewN | apply below_drew1 | refine below_set ?_ GE101.out) | exact HB.out)⟩

end Go.Proofs.Ytegdgjnpfifofaa.PT
end
section
namespace Go.Proofs.Ytegdgjnpfifofaa.PT
open Go.RowKit Go.Proofs.YtegdgjnpfifofaaW.PrintWords Go.Proofs.YtegdgjnpfifofaaW.PrintLast Go.Proofs.YtegdgjnpfifofaaW.PrintMore
attribute [local go_sem] max2_int min2_int max_two min_two max_three min_three max_four min_four   -- for this text's walks alone
set_option linter.unusedVariables false
set_option linter.unusedSimpArgs false

/-! ### laws_FnExactCountOf: function 5 -/
def laws_FnExactCountOf.j0 : Nat → Bool → List (S138) → List (S94) → Option (Bool)
  | 0, _, _, _ => none
  | k + 1, x38, x102000, x112000 => if x38 = true then (some false) else ((laws_toCircuit.f k x102000).bind fun t114 => ((laws_eqCircuit.f k x112000 t114).bind fun t117 => (if t117 = true then (some true) else (some false))))
def laws_FnExactCountOf.f (k : Nat) (l0_0 : List (S138)) (a1 : Int) : Option (Bool) := (laws_szCircuit.f l0_0 1048576).bind fun t102 => (if t102 < 0 then (some true) else ((laws_toCircuit.f k l0_0).bind fun t103 => ((spec_CountOf.f k t103 a1).bind fun bt106 => ((laws_toCircuit.f k l0_0).bind fun t108 => ((impl_CountOf.f k t108 a1).bind fun bt112 => (if bt112.1 = bt106.1 then (laws_FnExactCountOf.j0 k (bt112.2 != bt106.2) l0_0 t108) else (laws_FnExactCountOf.j0 k true l0_0 t108)))))))
theorem laws_FnExactCountOf.mono_l : ∀ k, (∀ y0 y1 y2, LeO (laws_FnExactCountOf.j0 k y0 y1 y2) (laws_FnExactCountOf.j0 (k + 1) y0 y1 y2))
  | 0 => fun _ _ _ r h => by simp [laws_FnExactCountOf.j0] at h
  | k + 1 => by
    have ih0 := laws_FnExactCountOf.mono_l k
    · intro y0 y1 y2
      unfold laws_FnExactCountOf.j0
      repeat' first
      | (with_reducible exact ih0 _ _ _)
      | (with_reducible exact impl_CountOf.mono _ _ _)
      | (with_reducible exact laws_eqCircuit.mono _ _ _)
      | (with_reducible exact laws_toCircuit.mono _ _)
      | (with_reducible exact spec_CountOf.mono _ _ _)
      | (with_reducible exact LeO.refl _)
      | (with_reducible exact LeO.none _)
      | (with_reducible refine LeO.ite ?_ ?_)
      | (with_reducible refine LeO.bind ?_ (fun _ => ?_))
      | exact ih0 _ _ _
      | exact impl_CountOf.mono _ _ _
      | exact laws_eqCircuit.mono _ _ _
      | exact laws_toCircuit.mono _ _
      | exact spec_CountOf.mono _ _ _
      | exact LeO.none _
      | refine LeO.ite ?_ ?_
      | refine LeO.bind ?_ (fun _ => ?_)
theorem laws_FnExactCountOf.mono : ∀ a0 a1 k, LeO (laws_FnExactCountOf.f k a0 a1) (laws_FnExactCountOf.f (k + 1) a0 a1) := by
  intro a0 a1 k
  have ih0 := laws_FnExactCountOf.mono_l k
  unfold laws_FnExactCountOf.f
  repeat' first
      | (with_reducible exact ih0 _ _ _)
      | (with_reducible exact impl_CountOf.mono _ _ _)
      | (with_reducible exact laws_eqCircuit.mono _ _ _)
      | (with_reducible exact laws_toCircuit.mono _ _)
      | (with_reducible exact spec_CountOf.mono _ _ _)
      | (with_reducible exact LeO.refl _)
      | (with_reducible exact LeO.none _)
      | (with_reducible refine LeO.ite ?_ ?_)
      | (with_reducible refine LeO.bind ?_ (fun _ => ?_))
      | exact ih0 _ _ _
      | exact impl_CountOf.mono _ _ _
      | exact laws_eqCircuit.mono _ _ _
      | exact laws_toCircuit.mono _ _
      | exact spec_CountOf.mono _ _ _
      | exact LeO.none _
      | refine LeO.ite ?_ ?_
      | refine LeO.bind ?_ (fun _ => ?_)
set_option maxHeartbeats 8000000 in
set_option maxRecDepth 100000 in
theorem laws_FnExactCountOf.calls (k : Nat) (A0_0 : Option Addr) (c0_0 : Nat) (l0_0 : List (S138)) (a1 : Int) (r : Bool) (w : World) (hr0_0 : Kd.C k138 w A0_0 l0_0.length l0_0) (hc0_0 : l0_0.length ≤ c0_0) (hr_ : r = true) (h : laws_FnExactCountOf.f k l0_0 a1 = some r) :
    Calls Try.prog 5 #[.agg #[.slice A0_0 l0_0.length c0_0], .int .i64 a1] w fun e w' => e = .returned (.bool r) ∧ Below w.heap.size w w' := by
  have hu24 := Try.underlying24
  have hu29 := Try.underlying29
  have HR0_0 := Aside0.mk hr0_0
  have HC0_0 := Aside0.mk hc0_0
  clear hr0_0 hc0_0
  have HB := Aside0.mk (Below.refl w.heap.size w)
  have H : ((laws_szCircuit.f l0_0 1048576).bind fun t102 => (if t102 < 0 then (some true) else ((laws_toCircuit.f k l0_0).bind fun t103 => ((spec_CountOf.f k t103 a1).bind fun bt106 => ((laws_toCircuit.f k l0_0).bind fun t108 => ((impl_CountOf.f k t108 a1).bind fun bt112 => (if bt112.1 = bt106.1 then (laws_FnExactCountOf.j0 k (bt112.2 != bt106.2) l0_0 t108) else (laws_FnExactCountOf.j0 k true l0_0 t108)))))))) = some r := h
  clear h
  replace H := Option.bind_eq_some_iff.mp H
  obtain ⟨t102, A30, H⟩ := H
  replace H : (if t102 < 0 then (some true) else ((laws_toCircuit.f k l0_0).bind fun t103 => ((spec_CountOf.f k t103 a1).bind fun bt106 => ((laws_toCircuit.f k l0_0).bind fun t108 => ((impl_CountOf.f k t108 a1).bind fun bt112 => (if bt112.1 = bt106.1 then (laws_FnExactCountOf.j0 k (bt112.2 != bt106.2) l0_0 t108) else (laws_FnExactCountOf.j0 k true l0_0 t108))))))) = some r := H
  have A3 := Aside0.mk A30
  clear A30
  by_cases c4 : t102 < 0
  · rw [if_pos c4] at H
    have c4b0 : decide (t102 < 0) = true := decide_eq_true c4
    clear c4
    obtain rfl := Option.some.inj H
    go_enter Try.func5, Try.ntmps5
    go_wp2_with (first | ((with_reducible refine gate_dst (N := 2) rfl ?_); refine box_event ?hg (N := 2) ?hd (cs := #[.slice A0_0 l0_0.length c0_0]) (t := 24) ?hr ?_; (case hd => rfl); (case hg => rfl); (case hr => first | (go_simp; done) | (go_simp; rfl)); intro gb101 hg w5 hbox hb; have n0_ := Aside0.mk (below_step (by repeat (first | (with_reducible first | exact HB.out | apply below_alloc | apply pw_below_drewN | apply below_drew1) | exact HB.out)) hb); have n1_ := Aside0.mk (hbox); have n2_ := Aside0.mk ((by rw [hg]; exact (below_size (by repeat (first | (with_reducible first | exact HB.out | apply below_alloc | apply pw_below_drewN | apply below_drew1) | exact HB.out))) : w.heap.size ≤ gb101)); have n3_ := Aside0.mk ((by rw [hg]; exact (below_size (by repeat (first | (with_reducible first | exact HB.out | apply below_alloc | apply pw_below_drewN | apply below_drew1) | exact HB.out))) : w.heap.size ≤ gb101)); clear HB; have HB := n0_; have BK101 := n1_; have GW101 := n2_; have GE101 := n3_; clear n0_ n1_ n2_ n3_; clear hb hbox hg; have hcz6_0 : w5.cell? ⟨gb101, 0, none⟩ = some (.slice A0_0 l0_0.length c0_0) := (blk_cell BK101.out 0).trans rfl; have hfz6_0 := blk_frozen BK101.out 0) | ((with_reducible refine gate_callee (f := 14) rfl ?_); refine goesL_ (some 13) rfl rfl Try.func14 (by kernel_rfl) rfl #[.agg #[.slice A0_0 l0_0.length c0_0], .int .i64 1048576] rfl (by (try simp only [List.map_toArray, List.map_cons, List.map_nil]); first | done | rfl | (simp only [List.length_drop, List.length_take]; rfl)) ?_; (with_reducible refine (laws_szCircuit.calls _ _ l0_0 1048576 t102 _ ?side1 ?side2 A3.out).mono ?_); (case side1 => repeat (first | exact (Kd.C_below HR0_0.out HB.out) | (with_reducible refine Kd.C_alloc ?_ _) | (with_reducible refine Kd.C_drewN ?_ _) | (with_reducible refine Kd.C_drew ?_))); (case side2 => exact HC0_0.out); rintro e w7 ⟨rfl, hb⟩; refine ⟨_, rfl, ?_⟩; have n0_ := Aside0.mk (blk_below (g := gb101) (o := .cells #[.slice A0_0 l0_0.length c0_0] 24 (0, 0)) (by (with_reducible repeat (first | refine blk_drewN ?_ _ | refine blk_drew ?_ | refine blk_alloc ?_ _)); exact BK101.out) hb); have n1_ := Aside0.mk (below_step (by repeat (first | (with_reducible first | exact HB.out | apply below_alloc | apply pw_below_drewN | apply below_drew1 | refine below_set ?_ GE101.out) | exact HB.out)) hb); clear BK101; clear HB; have BK101 := n0_; have HB := n1_; clear n0_ n1_; (try clear hb); (try clear hb2); (try clear hk); (try clear hi)))
    go_ret
    exact ⟨by first | rfl | (simp [errW_none, errW_some] <;> rfl) | (simp [*, errW_none, errW_some] <;> rfl), by repeat (first | (with_reducible first | exact HB.out | apply below_alloc | apply pw_below_drewN | apply below_drew1 | refine below_set ?_ GE101.out) | exact HB.out)⟩
  · rw [if_neg c4] at H
    have c4b0 : decide (t102 < 0) = false := decide_eq_false c4
    clear c4
    replace H := Option.bind_eq_some_iff.mp H
    obtain ⟨t103, A80, H⟩ := H
    replace H : ((spec_CountOf.f k t103 a1).bind fun bt106 => ((laws_toCircuit.f k l0_0).bind fun t108 => ((impl_CountOf.f k t108 a1).bind fun bt112 => (if bt112.1 = bt106.1 then (laws_FnExactCountOf.j0 k (bt112.2 != bt106.2) l0_0 t108) else (laws_FnExactCountOf.j0 k true l0_0 t108))))) = some r := H
    have A8 := Aside0.mk A80
    clear A80
    replace H := Option.bind_eq_some_iff.mp H
    obtain ⟨⟨t106, t107⟩, A90, H⟩ := H
    replace H : ((laws_toCircuit.f k l0_0).bind fun t108 => ((impl_CountOf.f k t108 a1).bind fun bt112 => (if bt112.1 = t106 then (laws_FnExactCountOf.j0 k (bt112.2 != t107) l0_0 t108) else (laws_FnExactCountOf.j0 k true l0_0 t108)))) = some r := H
    have A9 := Aside0.mk A90
    clear A90
    replace H := Option.bind_eq_some_iff.mp H
    obtain ⟨t108, A100, H⟩ := H
    replace H : ((impl_CountOf.f k t108 a1).bind fun bt112 => (if bt112.1 = t106 then (laws_FnExactCountOf.j0 k (bt112.2 != t107) l0_0 t108) else (laws_FnExactCountOf.j0 k true l0_0 t108))) = some r := H
    have A10 := Aside0.mk A100
    clear A100
    replace H := Option.bind_eq_some_iff.mp H
    obtain ⟨⟨t112, t113⟩, A110, H⟩ := H
    replace H : (if t112 = t106 then (laws_FnExactCountOf.j0 k (t113 != t107) l0_0 t108) else (laws_FnExactCountOf.j0 k true l0_0 t108)) = some r := H
    have A11 := Aside0.mk A110
    clear A110
    have HC12 := Aside0.mk H
    clear H
    go_enter Try.func5, Try.ntmps5
    go_upto_region 8 with (first | ((with_reducible refine gate_dst (N := 2) rfl ?_); refine box_event ?hg (N := 2) ?hd (cs := #[.slice A0_0 l0_0.length c0_0]) (t := 24) ?hr ?_; (case hd => rfl); (case hg => rfl); (case hr => first | (go_simp; done) | (go_simp; rfl)); intro gb101 hg w13 hbox hb; have n0_ := Aside0.mk (below_step (by repeat (first | (with_reducible first | exact HB.out | apply below_alloc | apply pw_below_drewN | apply below_drew1) | exact HB.out)) hb); have n1_ := Aside0.mk (hbox); have n2_ := Aside0.mk ((by rw [hg]; exact (below_size (by repeat (first | (with_reducible first | exact HB.out | apply below_alloc | apply pw_below_drewN | apply below_drew1) | exact HB.out))) : w.heap.size ≤ gb101)); have n3_ := Aside0.mk ((by rw [hg]; exact (below_size (by repeat (first | (with_reducible first | exact HB.out | apply below_alloc | apply pw_below_drewN | apply below_drew1) | exact HB.out))) : w.heap.size ≤ gb101)); clear HB; have HB := n0_; have BK101 := n1_; have GW101 := n2_; have GE101 := n3_; clear n0_ n1_ n2_ n3_; clear hb hbox hg; have hcz14_0 : w13.cell? ⟨gb101, 0, none⟩ = some (.slice A0_0 l0_0.length c0_0) := (blk_cell BK101.out 0).trans rfl; have hfz14_0 := blk_frozen BK101.out 0) | ((with_reducible refine gate_callee (f := 14) rfl ?_); refine goesL_ (some 13) rfl rfl Try.func14 (by kernel_rfl) rfl #[.agg #[.slice A0_0 l0_0.length c0_0], .int .i64 1048576] rfl (by (try simp only [List.map_toArray, List.map_cons, List.map_nil]); first | done | rfl | (simp only [List.length_drop, List.length_take]; rfl)) ?_; (with_reducible refine (laws_szCircuit.calls _ _ l0_0 1048576 t102 _ ?side1 ?side2 A3.out).mono ?_); (case side1 => repeat (first | exact (Kd.C_below HR0_0.out HB.out) | (with_reducible refine Kd.C_alloc ?_ _) | (with_reducible refine Kd.C_drewN ?_ _) | (with_reducible refine Kd.C_drew ?_))); (case side2 => exact HC0_0.out); rintro e w15 ⟨rfl, hb⟩; refine ⟨_, rfl, ?_⟩; have n0_ := Aside0.mk (blk_below (g := gb101) (o := .cells #[.slice A0_0 l0_0.length c0_0] 24 (0, 0)) (by (with_reducible repeat (first | refine blk_drewN ?_ _ | refine blk_drew ?_ | refine blk_alloc ?_ _)); exact BK101.out) hb); have n1_ := Aside0.mk (below_step (by repeat (first | (with_reducible first | exact HB.out | apply below_alloc | apply pw_below_drewN | apply below_drew1 | refine below_set ?_ GE101.out) | exact HB.out)) hb); clear BK101; clear HB; have BK101 := n0_; have HB := n1_; clear n0_ n1_; (try clear hb); (try clear hb2); (try clear hk); (try clear hi); have hcz16_0 : w15.cell? ⟨gb101, 0, none⟩ = some (.slice A0_0 l0_0.length c0_0) := (blk_cell BK101.out 0).trans rfl; have hfz16_0 := blk_frozen BK101.out 0) | ((with_reducible refine gate_callee (f := 16) rfl ?_); refine goesL_ (some 18) rfl rfl Try.func16 (by kernel_rfl) rfl #[.agg #[.slice A0_0 l0_0.length c0_0]] rfl (by (try simp only [List.map_toArray, List.map_cons, List.map_nil]); first | done | rfl | (simp only [List.length_drop, List.length_take]; rfl)) ?_; (with_reducible refine (laws_toCircuit.calls k _ _ l0_0 t103 _ ?side1 ?side2 A8.out).mono ?_); (case side1 => repeat (first | exact (Kd.C_below HR0_0.out HB.out) | (with_reducible refine Kd.C_alloc ?_ _) | (with_reducible refine Kd.C_drewN ?_ _) | (with_reducible refine Kd.C_drew ?_))); (case side2 => exact HC0_0.out); rintro e w17 ⟨v104, rfl, ho0, hb⟩; refine ⟨_, rfl, ?_⟩; have n0_ := Aside0.mk (Kd.R_lower ho0 (below_size (by repeat (first | (with_reducible first | exact HB.out | apply below_alloc | apply pw_below_drewN | apply below_drew1 | refine below_set ?_ GE101.out) | exact HB.out)))); have n1_ := Aside0.mk (blk_below (g := gb101) (o := .cells #[.slice A0_0 l0_0.length c0_0] 24 (0, 0)) (by (with_reducible repeat (first | refine blk_drewN ?_ _ | refine blk_drew ?_ | refine blk_alloc ?_ _)); exact BK101.out) hb); have n2_ := Aside0.mk (below_step (by repeat (first | (with_reducible first | exact HB.out | apply below_alloc | apply pw_below_drewN | apply below_drew1 | refine below_set ?_ GE101.out) | exact HB.out)) hb); clear BK101; clear HB; have HO105 := n0_; have BK101 := n1_; have HB := n2_; clear n0_ n1_ n2_; (try clear hb); (try clear hb2); (try clear hk); (try clear hi); (try clear ho0); obtain ⟨Ao18, co18, eo18⟩ := Kd.R_slice HO105.out; subst eo18) | ((with_reducible refine gate_callee (f := 24) rfl ?_); refine goesL_ (some 20) rfl rfl Try.func24 (by kernel_rfl) rfl #[.agg #[.slice Ao18 t103.length co18], .int .i64 a1] rfl (by (try simp only [List.map_toArray, List.map_cons, List.map_nil]); first | done | rfl | (simp only [List.length_drop, List.length_take]; rfl)) ?_; (with_reducible refine (spec_CountOf.calls k _ _ t103 a1 t106 t107 _ ?side1 ?side2 A9.out).mono ?_); (case side1 => repeat (first | exact (Kd.R_reads' HO105.out).2.2 | (with_reducible refine Kd.C_alloc ?_ _) | (with_reducible refine Kd.C_drewN ?_ _) | (with_reducible refine Kd.C_drew ?_))); (case side2 => exact (Kd.R_reads' HO105.out).2.1); rintro e w19 ⟨rfl, hb⟩; refine ⟨_, rfl, ?_⟩; have n0_ := Aside0.mk (Kd.R_below (by (with_reducible repeat (first | apply Kd.R_alloc | apply Kd.R_drewN | apply Kd.R_drew)); exact HO105.out) hb); have n1_ := Aside0.mk (blk_below (g := gb101) (o := .cells #[.slice A0_0 l0_0.length c0_0] 24 (0, 0)) (by (with_reducible repeat (first | refine blk_drewN ?_ _ | refine blk_drew ?_ | refine blk_alloc ?_ _)); exact BK101.out) hb); have n2_ := Aside0.mk (below_step (by repeat (first | (with_reducible first | exact HB.out | apply below_alloc | apply pw_below_drewN | apply below_drew1 | refine below_set ?_ GE101.out) | exact HB.out)) hb); clear HO105; clear BK101; clear HB; have HO105 := n0_; have BK101 := n1_; have HB := n2_; clear n0_ n1_ n2_; (try clear hb); (try clear hb2); (try clear hk); (try clear hi); have hcz20_0 : w19.cell? ⟨gb101, 0, none⟩ = some (.slice A0_0 l0_0.length c0_0) := (blk_cell BK101.out 0).trans rfl; have hfz20_0 := blk_frozen BK101.out 0) | ((with_reducible refine gate_callee (f := 16) rfl ?_); refine goesL_ (some 24) rfl rfl Try.func16 (by kernel_rfl) rfl #[.agg #[.slice A0_0 l0_0.length c0_0]] rfl (by (try simp only [List.map_toArray, List.map_cons, List.map_nil]); first | done | rfl | (simp only [List.length_drop, List.length_take]; rfl)) ?_; (with_reducible refine (laws_toCircuit.calls k _ _ l0_0 t108 _ ?side1 ?side2 A10.out).mono ?_); (case side1 => repeat (first | exact (Kd.C_below HR0_0.out HB.out) | (with_reducible refine Kd.C_alloc ?_ _) | (with_reducible refine Kd.C_drewN ?_ _) | (with_reducible refine Kd.C_drew ?_))); (case side2 => exact HC0_0.out); rintro e w21 ⟨v109, rfl, ho0, hb⟩; refine ⟨_, rfl, ?_⟩; have n0_ := Aside0.mk (Kd.R_elder' (by (with_reducible repeat (first | apply Kd.R_alloc | apply Kd.R_drewN | apply Kd.R_drew)); exact HO105.out) (Kd.R_base ho0) hb); have n1_ := Aside0.mk (Kd.R_lower (Kd.R_new' ho0 (Kd.R_lt (by (with_reducible repeat (first | apply Kd.R_alloc | apply Kd.R_drewN | apply Kd.R_drew)); exact HO105.out))) (below_size (by repeat (first | (with_reducible first | exact HB.out | apply below_alloc | apply pw_below_drewN | apply below_drew1 | refine below_set ?_ GE101.out) | exact HB.out)))); have n2_ := Aside0.mk (blk_below (g := gb101) (o := .cells #[.slice A0_0 l0_0.length c0_0] 24 (0, 0)) (by (with_reducible repeat (first | refine blk_drewN ?_ _ | refine blk_drew ?_ | refine blk_alloc ?_ _)); exact BK101.out) hb); have n3_ := Aside0.mk (below_step (by repeat (first | (with_reducible first | exact HB.out | apply below_alloc | apply pw_below_drewN | apply below_drew1 | refine below_set ?_ GE101.out) | exact HB.out)) hb); clear HO105; clear BK101; clear HB; have HO105 := n0_; have HO110 := n1_; have BK101 := n2_; have HB := n3_; clear n0_ n1_ n2_ n3_; (try clear hb); (try clear hb2); (try clear hk); (try clear hi); (try clear ho0)) | ((with_reducible refine gate_dst (N := 8) rfl ?_); refine box_event ?hg (N := 8) ?hd (cs := #[.slice none 0 0]) (t := 29) ?hr ?_; (case hd => rfl); (case hg => rfl); (case hr => first | (go_simp; done) | (go_simp; rfl)); intro gb111 hg w22 hbox hb; have n0_ := Aside0.mk (Kd.R_below (by (with_reducible repeat (first | apply Kd.R_alloc | apply Kd.R_drewN | apply Kd.R_drew)); exact HO105.out) hb); have n1_ := Aside0.mk (Kd.R_below (by (with_reducible repeat (first | apply Kd.R_alloc | apply Kd.R_drewN | apply Kd.R_drew)); exact HO110.out) hb); have n2_ := Aside0.mk (blk_below (g := gb101) (o := .cells #[.slice A0_0 l0_0.length c0_0] 24 (0, 0)) (by (with_reducible repeat (first | refine blk_drewN ?_ _ | refine blk_drew ?_ | refine blk_alloc ?_ _)); exact BK101.out) hb); have n3_ := Aside0.mk (below_step (by repeat (first | (with_reducible first | exact HB.out | apply below_alloc | apply pw_below_drewN | apply below_drew1 | refine below_set ?_ GE101.out) | exact HB.out)) hb); have n4_ := Aside0.mk (hbox); have n5_ := Aside0.mk ((by rw [hg]; exact (below_size (by repeat (first | (with_reducible first | exact HB.out | apply below_alloc | apply pw_below_drewN | apply below_drew1 | refine below_set ?_ GE101.out) | exact HB.out))) : w.heap.size ≤ gb111)); have n6_ := Aside0.mk ((by rw [hg]; exact (below_size (by repeat (first | (with_reducible first | exact HB.out | apply below_alloc | apply pw_below_drewN | apply below_drew1 | refine below_set ?_ GE101.out) | exact HB.out))) : w.heap.size ≤ gb111)); have n7_ := Aside0.mk ((by rw [hg]; exact Nat.ne_of_lt (blk_lt (g := gb101) (o := .cells #[.slice A0_0 l0_0.length c0_0] 24 (0, 0)) (by (with_reducible repeat (first | refine blk_drewN ?_ _ | refine blk_drew ?_ | refine blk_alloc ?_ _)); exact BK101.out)) : gb101 ≠ gb111)); have n8_ := Aside0.mk ((by rw [hg]; exact Nat.ne_of_gt (blk_lt (g := gb101) (o := .cells #[.slice A0_0 l0_0.length c0_0] 24 (0, 0)) (by (with_reducible repeat (first | refine blk_drewN ?_ _ | refine blk_drew ?_ | refine blk_alloc ?_ _)); exact BK101.out)) : gb111 ≠ gb101)); clear HO105; clear HO110; clear BK101; clear HB; have HO105 := n0_; have HO110 := n1_; have BK101 := n2_; have HB := n3_; have BK111 := n4_; have GW111 := n5_; have GE111 := n6_; have NB101_111 := n7_; have NB111_101 := n8_; clear n0_ n1_ n2_ n3_ n4_ n5_ n6_ n7_ n8_; clear hb hbox hg; obtain ⟨Ao23, co23, eo23⟩ := Kd.R_slice HO110.out; subst eo23; have hnb24 := NB111_101.out; have hnc24 := NB101_111.out; have hcz25_0 : w22.cell? ⟨gb111, 0, none⟩ = some (.slice none 0 0) := (blk_cell BK111.out 0).trans rfl; have hfz25_0 := blk_frozen BK111.out 0) | ((with_reducible refine gate_callee (f := 25) rfl ?_); refine goesL_ (some 28) rfl rfl Try.func25 (by kernel_rfl) rfl #[.agg #[.slice Ao23 t108.length co23], .int .i64 a1] rfl (by (try simp only [List.map_toArray, List.map_cons, List.map_nil]); first | done | rfl | (simp only [List.length_drop, List.length_take]; rfl)) ?_; (with_reducible refine (impl_CountOf.calls k _ _ t108 a1 t112 t113 _ ?side1 ?side2 A11.out).mono ?_); (case side1 => refine (Kd.R_reads' (e := 94) (base := w.heap.size) (ok := fun k_ => (True ∧ some k_ ≠ (.slice Ao18 t103.length co18 : Value).ownBlock)) (n := t108.length) (c := co23) ?_).2.2; exact (by (with_reducible repeat (first | apply Kd.R_alloc | apply Kd.R_drewN | apply Kd.R_drew)); exact (Kd.R_mono (Kd.R_far (p := ⟨gb111, 0, none⟩) (Kd.R_types HO110.out BK111.out (by decide)) (fun _ hk => hk.2) (.slice Ao23 t108.length co23)) (fun _ h_ => h_.1)))); (case side2 => exact (Kd.R_reads' HO110.out).2.1); rintro e w26 ⟨rfl, hb⟩; refine ⟨_, rfl, ?_⟩; have n0_ := Aside0.mk (Kd.R_below (by (with_reducible repeat (first | apply Kd.R_alloc | apply Kd.R_drewN | apply Kd.R_drew)); exact (Kd.R_mono (Kd.R_far (p := ⟨gb111, 0, none⟩) (Kd.R_types HO105.out BK111.out (by decide)) (fun _ hk => hk.2) (.slice Ao23 t108.length co23)) (fun _ h_ => h_.1))) hb); have n1_ := Aside0.mk (Kd.R_below (by (with_reducible repeat (first | apply Kd.R_alloc | apply Kd.R_drewN | apply Kd.R_drew)); exact (Kd.R_mono (Kd.R_far (p := ⟨gb111, 0, none⟩) (Kd.R_types HO110.out BK111.out (by decide)) (fun _ hk => hk.2) (.slice Ao23 t108.length co23)) (fun _ h_ => h_.1))) hb); have n2_ := Aside0.mk (blk_below (g := gb101) (o := .cells #[.slice A0_0 l0_0.length c0_0] 24 (0, 0)) (by (with_reducible repeat (first | refine blk_drewN ?_ _ | refine blk_drew ?_ | refine blk_alloc ?_ _)); refine blk_far ?_ NB101_111.out _; (with_reducible repeat (first | refine blk_drewN ?_ _ | refine blk_drew ?_ | refine blk_alloc ?_ _)); exact BK101.out) hb); have n3_ := Aside0.mk (blk_below (g := gb111) (o := .cells #[.slice Ao23 t108.length co23] 29 (0, 0)) (by (with_reducible repeat (first | refine blk_drewN ?_ _ | refine blk_drew ?_ | refine blk_alloc ?_ _)); refine blk_put (cs := #[.slice none 0 0]) ?_ 0 _ rfl; (with_reducible repeat (first | refine blk_drewN ?_ _ | refine blk_drew ?_ | refine blk_alloc ?_ _)); exact BK111.out) hb); have n4_ := Aside0.mk (below_step (by repeat (first | (with_reducible first | exact HB.out | apply below_alloc | apply pw_below_drewN | apply below_drew1 | refine below_set ?_ GE101.out | refine below_set ?_ GE111.out) | exact HB.out)) hb); clear HO105; clear HO110; clear BK101; clear BK111; clear HB; have HO105 := n0_; have HO110 := n1_; have BK101 := n2_; have BK111 := n3_; have HB := n4_; clear n0_ n1_ n2_ n3_ n4_; (try clear hb); (try clear hb2); (try clear hk); (try clear hi)))
    (try simp only [Act.put, List.setIfInBounds_toArray, List.set_cons_zero, List.set_cons_succ])
    go_cut [38] (fun v38 wc => ∃ (kq : Nat) (x38_11 : Bool), v38 = .bool x38_11 ∧ Aside0 (laws_FnExactCountOf.j0 kq x38_11 l0_0 t108 = some r) ∧ Aside0 (kq ≤ k) ∧ Aside0 (Kd.R k94 94 wc w.heap.size (fun _ => True) (.slice Ao23 t108.length co23) t108) ∧ Aside0 (wc.heap[gb101]? = some (.cells #[(.slice A0_0 l0_0.length c0_0)] 24 (0, 0))) ∧ Aside0 (wc.heap[gb111]? = some (.cells #[(.slice Ao23 t108.length co23)] 29 (0, 0))) ∧ Aside0 (Below w.heap.size w wc))
    case first =>
      have H := HC12.out
      clear HC12
      by_cases c27 : t112 = t106
      · rw [if_pos c27] at H
        have c27b0 : (t112 == t106) = true := beq_iff_eq.mpr c27
        have c27b1 : (t112 != t106) = false := bne_eq_false_iff_eq.mpr c27
        clear c27
        (first | rw [c27b0] | (simp only [i64_w, i32_w]; rw [c27b0]) | skip)
        have H' := Aside0.mk H
        clear H
        go_wp2
        go_meet
        case rel => exact ⟨_, ((t113 != t107)), (by first | rfl | (simp; done) | (simp [*]; done)), H', ⟨by first | omega | exact Nat.le_refl _⟩, ⟨by (with_reducible repeat (first | apply Kd.R_alloc | apply Kd.R_drewN | apply Kd.R_drew)); exact Kd.R_mono HO110.out (fun _ hk => trivial)⟩, ⟨by (with_reducible repeat (first | refine blk_drewN ?_ _ | refine blk_drew ?_ | refine blk_alloc ?_ _)); exact BK101.out⟩, ⟨by (with_reducible repeat (first | refine blk_drewN ?_ _ | refine blk_drew ?_ | refine blk_alloc ?_ _)); exact BK111.out⟩, ⟨by repeat (first | (with_reducible first | exact HB.out | apply below_alloc | apply pw_below_drewN | apply below_drew1 | refine below_set ?_ GE101.out | refine below_set ?_ GE111.out) | exact HB.out)⟩⟩
      · rw [if_neg c27] at H
        have c27b0 : (t112 == t106) = false := beq_eq_false_iff_ne.mpr c27
        have c27b1 : (t112 != t106) = true := bne_iff_ne.mpr c27
        (first | rw [c27b0] | (simp only [i64_w, i32_w]; rw [c27b0]) | skip)
        have H' := Aside0.mk H
        clear H
        go_wp2
        go_meet
        case rel => exact ⟨_, (true), (by first | rfl | (simp; done) | (simp [*]; done)), H', ⟨by first | omega | exact Nat.le_refl _⟩, ⟨by (with_reducible repeat (first | apply Kd.R_alloc | apply Kd.R_drewN | apply Kd.R_drew)); exact Kd.R_mono HO110.out (fun _ hk => trivial)⟩, ⟨by (with_reducible repeat (first | refine blk_drewN ?_ _ | refine blk_drew ?_ | refine blk_alloc ?_ _)); exact BK101.out⟩, ⟨by (with_reducible repeat (first | refine blk_drewN ?_ _ | refine blk_drew ?_ | refine blk_alloc ?_ _)); exact BK111.out⟩, ⟨by repeat (first | (with_reducible first | exact HB.out | apply below_alloc | apply pw_below_drewN | apply below_drew1 | refine below_set ?_ GE101.out | refine below_set ?_ GE111.out) | exact HB.out)⟩⟩
    case rest =>
      clear HC12
      try clear c1
      try clear c2
      try clear p2
      try clear c4
      try clear c4b0
      try clear c5
      try clear c14
      try clear c16
      try clear c24
      try clear c25
      try clear c27
      try clear c27b0
      try clear c27b1
      try clear hcz14_0
      try clear hcz16_0
      try clear hcz20_0
      try clear hcz25_0
      try clear hcz6_0
      try clear hfz14_0
      try clear hfz16_0
      try clear hfz20_0
      try clear hfz25_0
      try clear hfz6_0
      obtain ⟨kq, x38_11, rfl, HA, HJ11, HO_112000, BK101, BK111, HB⟩ := hcut
      cases kq with
      | zero => exact absurd HA.out (by simp [laws_FnExactCountOf.j0])
      | succ kj11 =>
        have H := HA.out
        clear HA
        simp only [laws_FnExactCountOf.j0] at H
        by_cases c28 : x38_11 = true
        · subst c28
          have H1 : (some false) = some r := by rw [if_pos rfl] at H; exact H
          clear H
          have H := H1
          clear H1
          exact absurd ((Option.some.inj H).trans hr_) (by decide)
        · replace c28 := Bool.eq_false_iff.mpr c28
          subst c28
          have H1 : ((laws_toCircuit.f kj11 l0_0).bind fun t114 => ((laws_eqCircuit.f kj11 t108 t114).bind fun t117 => (if t117 = true then (some true) else (some false)))) = some r := by rw [if_neg (show ¬ (false = true) by decide)] at H; exact H
          clear H
          have H := H1
          clear H1
          replace H := Option.bind_eq_some_iff.mp H
          obtain ⟨t114, A290, H⟩ := H
          replace H : ((laws_eqCircuit.f kj11 t108 t114).bind fun t117 => (if t117 = true then (some true) else (some false))) = some r := H
          have A29 := Aside0.mk A290
          clear A290
          replace H := Option.bind_eq_some_iff.mp H
          obtain ⟨t117, A300, H⟩ := H
          replace H : (if t117 = true then (some true) else (some false)) = some r := H
          have A30 := Aside0.mk A300
          clear A300
          by_cases c31 : t117 = true
          · subst c31
            have H1 : (some true) = some r := by rw [if_pos rfl] at H; exact H
            clear H
            have H := H1
            clear H1
            obtain rfl := Option.some.inj H
            try go_wp2
            have n0_ := Aside0.mk (Kd.R_drew HO_112000.out)
            have n1_ := Aside0.mk (blk_drew BK101.out)
            have n2_ := Aside0.mk (blk_drew BK111.out)
            have n3_ := Aside0.mk (below_drew1 HB.out)
            clear HO_112000
            clear BK101
            clear BK111
            clear HB
            have HO_112000 := n0_
            have BK101 := n1_
            have BK111 := n2_
            have HB := n3_
            clear n0_ n1_ n2_ n3_
            refine start_ (n := 5) (S := fun w' => w'.cell? ⟨gb111, 0, none⟩ = some (.slice Ao23 t108.length co23) ∧ w'.cell? ⟨gb101, 0, none⟩ = some (.slice A0_0 l0_0.length c0_0)) (ds := []) #[false, false, false, false, false] (by kernel_rfl) rfl rfl ⟨(blk_cell BK111.out 0).trans rfl, (blk_cell BK101.out 0).trans rfl⟩ (fun hHeld => ?_)
            generalize wc.drew = w32 at HO_112000 BK101 BK111 HB hHeld ⊢
            refine take_ (i := 0) (N := some 39) (v := ?_) (a' := ?_) #[true, false, false, false, false] rfl rfl (by kernel_rfl) (fun _ _ _ h => h) (Or.inl ⟨by rfl, ?_⟩) hHeld ?_ ?_
            rotate_left
            · rintro w' ⟨s0, s1⟩
              go_simp
              with_reducible rfl
            rotate_left
            · simp only [Act.put, List.setIfInBounds_toArray, List.set_cons_zero, List.set_cons_succ, i64_w, i32_w]
              rfl
            refine take_ (i := 1) (N := some 40) (v := ?_) (a' := ?_) #[true, true, false, false, false] rfl rfl (by kernel_rfl) (fun _ _ _ h => h) (Or.inl ⟨by rfl, ?_⟩) hHeld ?_ ?_
            rotate_left
            · rintro w' ⟨s0, s1⟩
              go_simp
              with_reducible rfl
            rotate_left
            · simp only [Act.put, List.setIfInBounds_toArray, List.set_cons_zero, List.set_cons_succ, i64_w, i32_w]
              rfl
            refine one_ (i := 2) (N := some 41) #[true, true, true, false, false] rfl rfl (by kernel_rfl) (by decide) (fun K hK => ?_)
            refine goes_ Try.func16 (by kernel_rfl) rfl #[.agg #[.slice A0_0 l0_0.length c0_0]] (by rfl) rfl rfl (by (try simp only [List.map_toArray, List.map_cons, List.map_nil]); first | done | rfl | (simp only [List.length_drop, List.length_take]; rfl)) ?_
            with_reducible refine (laws_toCircuit.calls kj11 _ _ l0_0 t114 _ ?side1 ?side2 A29.out).mono ?_
            (case side1 => repeat (first | exact (Kd.C_below HR0_0.out HB.out) | (with_reducible refine Kd.C_alloc ?_ _) | (with_reducible refine Kd.C_drewN ?_ _) | (with_reducible refine Kd.C_drew ?_)))
            (case side2 => exact HC0_0.out)
            rintro e w33 ⟨v115, rfl, ho0, hb⟩
            refine ⟨_, rfl, ?_⟩
            have n0_ := Aside0.mk (Kd.R_elder' (by (with_reducible repeat (first | apply Kd.R_alloc | apply Kd.R_drewN | apply Kd.R_drew)); exact HO_112000.out) (Kd.R_base ho0) hb)
            have n1_ := Aside0.mk (Kd.R_lower (Kd.R_new' ho0 (Kd.R_lt (by (with_reducible repeat (first | apply Kd.R_alloc | apply Kd.R_drewN | apply Kd.R_drew)); exact HO_112000.out))) (below_size (by repeat (first | (with_reducible first | exact HB.out | apply below_alloc | apply pw_below_drewN | apply below_drew1 | refine below_set ?_ GE101.out | refine below_set ?_ GE111.out) | exact HB.out))))
            have n2_ := Aside0.mk (blk_below (g := gb101) (o := .cells #[.slice A0_0 l0_0.length c0_0] 24 (0, 0)) (by (with_reducible repeat (first | refine blk_drewN ?_ _ | refine blk_drew ?_ | refine blk_alloc ?_ _)); exact BK101.out) hb)
            have n3_ := Aside0.mk (blk_below (g := gb111) (o := .cells #[.slice Ao23 t108.length co23] 29 (0, 0)) (by (with_reducible repeat (first | refine blk_drewN ?_ _ | refine blk_drew ?_ | refine blk_alloc ?_ _)); exact BK111.out) hb)
            have n4_ := Aside0.mk (below_step (by repeat (first | (with_reducible first | exact HB.out | apply below_alloc | apply pw_below_drewN | apply below_drew1 | refine below_set ?_ GE101.out | refine below_set ?_ GE111.out) | exact HB.out)) hb)
            clear HO_112000
            clear BK101
            clear BK111
            clear HB
            have HO_112000 := n0_
            have HO116 := n1_
            have BK101 := n2_
            have BK111 := n3_
            have HB := n4_
            clear n0_ n1_ n2_ n3_ n4_
            (try clear hb)
            (try clear hb2)
            (try clear hk)
            (try clear hi)
            (try clear ho0)
            obtain ⟨Ao34, co34, eo34⟩ := Kd.R_slice HO116.out
            (first | subst eo34 | (injection eo34 with f1_ f2_ f3_; have f4_ := f1_.symm; have f5_ := f3_.symm; clear f1_ f2_ f3_; subst f4_; subst f5_))
            refine hK.out _ _ ⟨(blk_cell BK111.out 0).trans rfl, (blk_cell BK101.out 0).trans rfl⟩ (fun hHeld => ?_)
            clear hK K
            refine norm_ (a' := ?_) ?_ ?_
            rotate_left
            · show Act.put _ (some 41) _ = _
              simp only [Act.put, List.setIfInBounds_toArray, List.set_cons_zero, List.set_cons_succ, i64_w, i32_w]
              rfl
            refine one_ (i := 3) (N := some 42) #[true, true, true, true, false] rfl rfl (by kernel_rfl) (by decide) (fun K hK => ?_)
            refine goes_ Try.func18 (by kernel_rfl) rfl #[.agg #[.slice Ao23 t108.length co23], .agg #[.slice Ao34 t114.length co34]] (by rfl) rfl rfl (by (try simp only [List.map_toArray, List.map_cons, List.map_nil]); first | done | rfl | (simp only [List.length_drop, List.length_take]; rfl)) ?_
            with_reducible refine (laws_eqCircuit.calls kj11 _ _ t108 _ _ t114 true _ ?side1 ?side2 ?side3 ?side4 A30.out).mono ?_
            (case side1 => repeat (first | exact (Kd.R_reads' HO_112000.out).2.2 | (with_reducible refine Kd.C_alloc ?_ _) | (with_reducible refine Kd.C_drewN ?_ _) | (with_reducible refine Kd.C_drew ?_)))
            (case side2 => exact (Kd.R_reads' HO_112000.out).2.1)
            (case side3 => repeat (first | exact (Kd.R_reads' HO116.out).2.2 | (with_reducible refine Kd.C_alloc ?_ _) | (with_reducible refine Kd.C_drewN ?_ _) | (with_reducible refine Kd.C_drew ?_)))
            (case side4 => exact (Kd.R_reads' HO116.out).2.1)
            rintro e w35 ⟨rfl, hb⟩
            refine ⟨_, rfl, ?_⟩
            have n0_ := Aside0.mk (Kd.R_below (by (with_reducible repeat (first | apply Kd.R_alloc | apply Kd.R_drewN | apply Kd.R_drew)); exact HO_112000.out) hb)
            have n1_ := Aside0.mk (Kd.R_below (by (with_reducible repeat (first | apply Kd.R_alloc | apply Kd.R_drewN | apply Kd.R_drew)); exact HO116.out) hb)
            have n2_ := Aside0.mk (blk_below (g := gb101) (o := .cells #[.slice A0_0 l0_0.length c0_0] 24 (0, 0)) (by (with_reducible repeat (first | refine blk_drewN ?_ _ | refine blk_drew ?_ | refine blk_alloc ?_ _)); exact BK101.out) hb)
            have n3_ := Aside0.mk (blk_below (g := gb111) (o := .cells #[.slice Ao23 t108.length co23] 29 (0, 0)) (by (with_reducible repeat (first | refine blk_drewN ?_ _ | refine blk_drew ?_ | refine blk_alloc ?_ _)); exact BK111.out) hb)
            have n4_ := Aside0.mk (below_step (by repeat (first | (with_reducible first | exact HB.out | apply below_alloc | apply pw_below_drewN | apply below_drew1 | refine below_set ?_ GE101.out | refine below_set ?_ GE111.out) | exact HB.out)) hb)
            clear HO_112000
            clear HO116
            clear BK101
            clear BK111
            clear HB
            have HO_112000 := n0_
            have HO116 := n1_
            have BK101 := n2_
            have BK111 := n3_
            have HB := n4_
            clear n0_ n1_ n2_ n3_ n4_
            (try clear hb)
            (try clear hb2)
            (try clear hk)
            (try clear hi)
            refine hK.out _ _ ⟨(blk_cell BK111.out 0).trans rfl, (blk_cell BK101.out 0).trans rfl⟩ (fun hHeld => ?_)
            clear hK K
            refine norm_ (a' := ?_) ?_ ?_
            rotate_left
            · show Act.put _ (some 42) _ = _
              simp only [Act.put, List.setIfInBounds_toArray, List.set_cons_zero, List.set_cons_succ, i64_w, i32_w]
              rfl
            refine pure_ (i := 4) (N := some 43) (v := ?_) (a' := ?_) #[true, true, true, true, true] rfl rfl (by kernel_rfl) (fun _ _ _ h => h) (Or.inl ⟨by rfl, ?_⟩) ?_ ?_
            rotate_left
            · intro w'
              go_simp
              with_reducible rfl
            rotate_left
            · simp only [Act.put, List.setIfInBounds_toArray, List.set_cons_zero, List.set_cons_succ, i64_w, i32_w]
              rfl
            refine done_ (by kernel_rfl) ?_
            try go_wp2
            go_ret
            exact ⟨by first | rfl | (simp [errW_none, errW_some] <;> rfl) | (simp [*, errW_none, errW_some] <;> rfl), by repeat (first | (with_reducible first | exact HB.out | apply below_alloc | apply pw_below_drewN | apply below_drew1 | refine below_set ?_ GE101.out | refine below_set ?_ GE111.out) | exact HB.out)⟩
          · replace c31 := Bool.eq_false_iff.mpr c31
            subst c31
            have H1 : (some false) = some r := by rw [if_neg (show ¬ (false = true) by decide)] at H; exact H
            clear H
            have H := H1
            clear H1
            exact absurd ((Option.some.inj H).trans hr_) (by decide)

end Go.Proofs.Ytegdgjnpfifofaa.PT
end
section
/- Arguments that are read as data have the kinds' own form: for each kind, compositionally. Own text, for every seat (Ytegdgjnpfifofaa: the seat's name). -/
namespace Go.Proofs.YtegdgjnpfifofaaO
open Go.RowKit Go.ChangeShapes Go.WideShapes Go.ChangeAt Go.Proofs.YtegdgjnpfifofaaW.PrintWords

/-- What is read as data of type T is of the kind d, and good. -/
def Opens {α : Type} {H : Type} (enc : TypeId × Value → H) (P : Program) (w : World) (T : TypeId) (d : Kd α) (good : α → Prop) : Prop :=
  ∀ (fuel : Nat) (cs : List Value) (x : DataW H × List MemPlace), DataW.trod enc P w 0 (fun _ => true) true fuel T cs = some x → ∃ a, d.K w a cs ∧ good a

/-- What is read as a run of fields of these types (each with its cells) is of the kind d, and good. -/
def OpensSeq {α : Type} {H : Type} (enc : TypeId × Value → H) (P : Program) (w : World) (fs : List (TypeId × Nat)) (d : Kd α) (good : α → Prop) : Prop :=
  ∀ (fuel : Nat) (cs : List Value), cs.length = (fs.map (·.2)).sum → (∀ (j : Nat) (T n : Nat), fs[j]? = some (T, n) → ∃ x, DataW.trod enc P w 0 (fun _ => true) true fuel T ((cs.drop ((fs.take j).map (·.2)).sum).take n) = some x) → ∃ a, d.K w a cs ∧ good a

section
variable {H : Type} {enc : TypeId × Value → H} {P : Program} {w : World}

def IntGood (k : IntKind) (a : Int) : Prop := (Lit.int k a).wf = true
def StrGood (a : ByteArray) : Prop := a.size ≤ 9223372036854775807
def ListGood {α : Type} (g : α → Prop) (l : List α) : Prop := l.length ≤ 9223372036854775807 ∧ ∀ x ∈ l, g x

theorem opens_int {T : TypeId} {k : IntKind} (ht : P.underlying T = some (.int k)) : Opens enc P w T (Kd.int k) (IntGood k) := by
  intro fuel cs x h
  obtain ⟨n, rfl, _, hw⟩ := DataW.trod_int ht h
  exact ⟨n, rfl, hw⟩
theorem opens_bool {T : TypeId} (ht : P.underlying T = some .bool) : Opens enc P w T Kd.bool (fun _ => True) := by
  intro fuel cs x h
  obtain ⟨n, rfl, _⟩ := DataW.trod_bool ht h
  exact ⟨n, rfl, trivial⟩
theorem opens_string {T : TypeId} (ht : P.underlying T = some .string) : Opens enc P w T Kd.string StrGood := by
  intro fuel cs x h
  obtain ⟨s, rfl, _, hs⟩ := DataW.trod_string ht h
  exact ⟨s, rfl, by unfold StrGood; unfold maxLen at hs; omega⟩

theorem choose_list {α : Type} {n : Nat} {p : Nat → α → Prop} (h : ∀ i, i < n → ∃ a, p i a) : ∃ l : List α, l.length = n ∧ ∀ i a, l[i]? = some a → p i a := by
  induction n with
  | zero => exact ⟨[], rfl, fun i a hi => by simp at hi⟩
  | succ n ih =>
    obtain ⟨l, hl, hp⟩ := ih (fun i hi => h i (by omega))
    obtain ⟨a, ha⟩ := h n (by omega)
    refine ⟨l ++ [a], by simp [hl], fun i b hi => ?_⟩
    rcases Nat.lt_or_ge i l.length with hlt | hge
    · rw [List.getElem?_append_left hlt] at hi
      exact hp i b hi
    · rw [List.getElem?_append_right hge] at hi
      have : i - l.length = 0 := by
        rcases Nat.eq_zero_or_pos (i - l.length) with h0 | h0
        · exact h0
        · rw [List.getElem?_eq_none (by simp; omega)] at hi; simp at hi
      rw [this] at hi
      simp at hi
      subst hi
      have : i = n := by omega
      rw [this]
      exact ha

theorem opens_slice {α : Type} {d : Kd α} {good : α → Prop} {T e : TypeId} (ht : P.underlying T = some (.slice e)) (hc : P.cellsOf e = d.sz) (ho : Opens enc P w e d good) : Opens enc P w T (Kd.slice e d) (ListGood good) := by
  intro fuel cs x h
  rcases Deep.open_slice ht h with ⟨rfl, _⟩ | ⟨a, len, cap, m, n, D, Pl, rfl, _, hl, hm, hmm, _, hx⟩
  · exact ⟨[], ⟨none, 0, rfl, Nat.le_refl _, ⟨rfl, by simp, fun h0 => by simp at h0⟩⟩, ⟨by simp, fun x hx => by simp at hx⟩⟩
  · have hle : len ≤ m := by rw [hmm]; split <;> omega
    have hex : ∀ i, i < len → ∃ b : α, (∃ c, c.length = d.sz ∧ d.K w b c ∧ ∀ j u, c[j]? = some u → w.cell? (a.add (i * d.sz + j)) = some u) ∧ good b := by
      intro i hi
      obtain ⟨cs', h1, h2⟩ := hx i (by omega)
      obtain ⟨b, hK, hg⟩ := ho _ _ _ h2
      obtain ⟨_, hlen, hcell⟩ := World.cells?_some h1
      refine ⟨b, ⟨cs', by rw [hlen, hc], hK, fun j u hu => ?_⟩, hg⟩
      have hj : j < P.cellsOf e := by
        rw [← hlen]
        exact (List.getElem?_eq_some_iff.1 hu).1
      rw [← Deep.add_add, ← hc, hcell j hj, hu]
    obtain ⟨l, hll, hp⟩ := choose_list hex
    unfold maxLen at hm
    refine ⟨l, ⟨some a, cap, by rw [hll], by omega, ⟨rfl, by omega, fun _ => ⟨a, rfl, fun j p hj => (hp j p hj).1⟩⟩⟩, ⟨by omega, fun x hx => ?_⟩⟩
    obtain ⟨i, hi, rfl⟩ := List.getElem_of_mem hx
    exact (hp i _ (List.getElem?_eq_getElem hi)).2

theorem opensSeq_one {α : Type} {d : Kd α} {good : α → Prop} {T n : Nat} (ho : Opens enc P w T d good) : OpensSeq enc P w [(T, n)] d good := by
  intro fuel cs hlen h
  obtain ⟨x, hx⟩ := h 0 T n rfl
  simp at hlen
  simp [List.take_of_length_le (Nat.le_of_eq hlen)] at hx
  exact ho _ _ _ hx
theorem opensSeq_cons {α β : Type} {d : Kd α} {good : α → Prop} {d2 : Kd β} {good2 : β → Prop} {T n : Nat} {fs : List (TypeId × Nat)} (ho : Opens enc P w T d good) (hs : OpensSeq enc P w fs d2 good2) :
    OpensSeq enc P w ((T, n) :: fs) (Kd.pair d d2) (fun x => good x.1 ∧ good2 x.2) := by
  intro fuel cs hlen h
  obtain ⟨x, hx⟩ := h 0 T n rfl
  simp at hx
  obtain ⟨a, hK, hg⟩ := ho _ _ _ hx
  simp only [List.map_cons, List.sum_cons] at hlen
  obtain ⟨b, hK2, hg2⟩ := hs fuel (cs.drop n) (by rw [List.length_drop, hlen]; omega) (fun j T' n' hj => by
    obtain ⟨y, hy⟩ := h (j + 1) T' n' (by simpa using hj)
    refine ⟨y, ?_⟩
    simp only [List.take_succ_cons, List.map_cons, List.sum_cons] at hy
    rw [List.drop_drop]
    exact hy)
  exact ⟨(a, b), ⟨cs.take n, cs.drop n, (List.take_append_drop n cs).symm, hK, hK2⟩, hg, hg2⟩

/-- A struct whose fields stand one behind the other. -/
theorem opens_struct {α β : Type} {d : Kd α} {good : α → Prop} {T : TypeId} {fs : Array Field} {l : List (TypeId × Nat)} (f : β → α) (g : α → β) (hfg : ∀ a, f (g a) = a) (ht : P.underlying T = some (.struct fs))
    (hl : l.length = fs.size) (hf : ∀ (j : Nat) (T' n : Nat), l[j]? = some (T', n) → ∃ fd, fs[j]? = some fd ∧ fd.type = T' ∧ P.cellsOf T' = n ∧ fd.offset = ((l.take j).map (·.2)).sum) (hc : P.cellsOf T = (l.map (·.2)).sum)
    (hs : OpensSeq enc P w l d good) : Opens enc P w T (Kd.iso d f) (fun x => good (f x)) := by
  intro fuel cs x h
  obtain ⟨xs, n, _, _, hlen, hxl, hx⟩ := DataW.trod_struct ht h
  obtain ⟨a, hK, hg⟩ := hs n cs (by rw [hlen, hc]) (fun j T' n' hj => by
    obtain ⟨fd, h1, h2, h3, h4⟩ := hf j T' n' hj
    have h5 := hx j fd h1
    have hj2 : j < xs.length := by
      have := (List.getElem?_eq_some_iff.1 hj).1
      omega
    rw [List.getElem?_eq_getElem hj2, h2, h3, h4] at h5
    exact ⟨_, h5⟩)
  refine ⟨g a, ?_, ?_⟩
  · show d.K w (f (g a)) cs
    rw [hfg]; exact hK
  · show good (f (g a))
    rw [hfg]; exact hg
end
end Go.Proofs.YtegdgjnpfifofaaO
end
section
namespace Go.Proofs.Ytegdgjnpfifofaa.fnExactCountOf
open Go.RowKit Go.ChangeShapes Go.WideShapes Go.ChangeAt Go.Proofs.YtegdgjnpfifofaaO Go.Proofs.Ytegdgjnpfifofaa.PT Go.Proofs.YtegdgjnpfifofaaW.PrintWords Go.Proofs.YtegdgjnpfifofaaW.PrintLast
set_option linter.unusedVariables false
theorem opensT3 {H : Type} {enc : TypeId × Value → H} {w : World} : Opens enc Try.prog w 3 (Kd.int .i64) (IntGood .i64) := opens_int Try.underlying3
def goodT138 : S138 → Prop := (fun x : S138 => (IntGood .i64) x.f0 ∧ (IntGood .i64) x.f1 ∧ (IntGood .i64) x.f2 ∧ (IntGood .i64) x.f3)
theorem opensT138 {H : Type} {enc : TypeId × Value → H} {w : World} : Opens enc Try.prog w 138 k138 goodT138 :=
  opens_struct (l := [(3, 1), (3, 1), (3, 1), (3, 1)]) (fun x : S138 => (x.f0, x.f1, x.f2, x.f3)) (fun a => ⟨a.1, a.2.1, a.2.2.1, a.2.2.2⟩) (fun _ => rfl) Try.underlying138 rfl (fun j T n h => match j, T, n, h with
    | 0, _, _, h => by cases h; exact ⟨_, rfl, rfl, by kernel_rfl, rfl⟩
    | 1, _, _, h => by cases h; exact ⟨_, rfl, rfl, by kernel_rfl, rfl⟩
    | 2, _, _, h => by cases h; exact ⟨_, rfl, rfl, by kernel_rfl, rfl⟩
    | 3, _, _, h => by cases h; exact ⟨_, rfl, rfl, by kernel_rfl, rfl⟩
    | _ + 4, _, _, h => by simp at h) (by kernel_rfl) (opensSeq_cons opensT3 (opensSeq_cons opensT3 (opensSeq_cons opensT3 (opensSeq_one opensT3))))
theorem opensT22 {H : Type} {enc : TypeId × Value → H} {w : World} : Opens enc Try.prog w 22 (Kd.slice 138 k138) (ListGood goodT138) := opens_slice Try.underlying22 (by kernel_rfl) opensT138
def goodT24 : S24 → Prop := (fun x : S24 => (ListGood goodT138) x.f0)
theorem opensT24 {H : Type} {enc : TypeId × Value → H} {w : World} : Opens enc Try.prog w 24 k24 goodT24 :=
  opens_struct (l := [(22, 1)]) (fun x : S24 => x.f0) (fun a => ⟨a⟩) (fun _ => rfl) Try.underlying24 rfl (fun j T n h => match j, T, n, h with
    | 0, _, _, h => by cases h; exact ⟨_, rfl, rfl, by kernel_rfl, rfl⟩
    | _ + 1, _, _, h => by simp at h) (by kernel_rfl) (opensSeq_one opensT22)
/-- What is to be shown of the law, over numbers and lists alone. -/
def Pure : Prop := ∀ (x0 : S24) (x1 : Int), goodT24 x0 → (IntGood .i64) x1 → ∃ k, laws_FnExactCountOf.f k x0.f0 x1 = some true
end Go.Proofs.Ytegdgjnpfifofaa.fnExactCountOf
end
section
/- The field and the greater field, over whole numbers: what the printed functions of chapters 2 and 3 come to. -/
namespace Go.Proofs.Ytegdgjnpfifofaa.PT
open Go.RowKit Go.Proofs.YtegdgjnpfifofaaW.PrintWords Go.Proofs.YtegdgjnpfifofaaW.PrintLast Go.Proofs.YtegdgjnpfifofaaW.PrintMore
set_option linter.unusedVariables false
set_option linter.unusedSimpArgs false

abbrev E := S61
instance : DecidableEq S61 := fun x y => decidable_of_iff (x.f0 = y.f0 ∧ x.f1 = y.f1) ⟨fun h => by cases x; cases y; simp_all, fun h => by rw [h]; exact ⟨rfl, rfl⟩⟩
theorem w64 {n : Int} (h0 : -9223372036854775808 ≤ n) (h1 : n ≤ 9223372036854775807) : wrap64 n = n := by unfold wrap64; omega
def inF (a : Int) : Prop := 0 ≤ a ∧ a ≤ 2130706432
instance (a : Int) : Decidable (inF a) := by unfold inF; infer_instance
end Go.Proofs.Ytegdgjnpfifofaa.PT
end
section
/- What the printed functions of the field and of the greater field answer: the same sums and products on both sides. -/
namespace Go.Proofs.Ytegdgjnpfifofaa.PT
open Go.RowKit Go.Proofs.YtegdgjnpfifofaaW.PrintWords Go.Proofs.YtegdgjnpfifofaaW.PrintLast Go.Proofs.YtegdgjnpfifofaaW.PrintMore
set_option linter.unusedVariables false
set_option linter.unusedSimpArgs false

theorem impl_in_eq (a b c : Int) : impl_in.f a b c = some (decide (b ≤ a ∧ a ≤ c)) := by
  unfold impl_in.f; by_cases h : b ≤ a <;> simp [h]
theorem spec_l01In_eq (a b c : Int) : spec_l01In.f a b c = some (decide (b ≤ a ∧ a ≤ c)) := by
  unfold spec_l01In.f; by_cases h : b ≤ a <;> simp [h]
theorem impl_FieldOK_eq (a : Int) : impl_FieldOK.f a = some (decide (inF a)) := by
  unfold impl_FieldOK.f; rw [impl_in_eq]; rfl
theorem spec_FieldOK_eq (a : Int) : spec_FieldOK.f a = some (decide (inF a)) := by
  unfold spec_FieldOK.f; rw [spec_l01In_eq]; rfl
/-! lists -/
end Go.Proofs.Ytegdgjnpfifofaa.PT
end
section
/- The laws' own helpers: elements copied, compared, marked; and powers of two. -/
namespace Go.Proofs.Ytegdgjnpfifofaa.PT
open Go.RowKit Go.Proofs.YtegdgjnpfifofaaW.PrintWords Go.Proofs.YtegdgjnpfifofaaW.PrintLast Go.Proofs.YtegdgjnpfifofaaW.PrintMore
set_option linter.unusedVariables false
set_option linter.unusedSimpArgs false

theorem getD_at {α : Type} {l : List α} {z : α} {i : Nat} (h : i < l.length) : l.getD i z = l[i] := by
  rw [List.getD_eq_getElem?_getD, List.getElem?_eq_getElem h]; rfl
theorem set_mid {α : Type} (a b : List α) (x y : α) : (a ++ x :: b).set a.length y = a ++ y :: b := by
  rw [List.set_append_right _ _ (Nat.le_refl _)]; simp
/-! marks: a list's cells are numbered from k on -/
def marked : Nat → Int → List E
  | 0, _ => []
  | n + 1, k => ⟨k, k + 1⟩ :: marked n (k + 2)
/-! powers of two -/
end Go.Proofs.Ytegdgjnpfifofaa.PT
end
section
/- Steps that several laws share: same answers compared, lists turned in place. -/
namespace Go.Proofs.Ytegdgjnpfifofaa.PT
open Go.RowKit Go.Proofs.YtegdgjnpfifofaaW.PrintWords Go.Proofs.YtegdgjnpfifofaaW.PrintLast Go.Proofs.YtegdgjnpfifofaaW.PrintMore
set_option linter.unusedVariables false
set_option linter.unusedSimpArgs false
/-- A step with its answer known, as a rewriting (no unfolding in the kernel). -/
theorem bS {α β : Type} (a : α) (f : α → Option β) : (some a).bind f = f a := Eq.trans (Eq.refl _) (Option.bind_some a f)
end Go.Proofs.Ytegdgjnpfifofaa.PT
end
section
/- Gates and circuits: the laws' helpers, and what both sides answer. -/
namespace Go.Proofs.Ytegdgjnpfifofaa.PT
open Go.RowKit Go.Proofs.YtegdgjnpfifofaaW.PrintWords Go.Proofs.YtegdgjnpfifofaaW.PrintLast Go.Proofs.YtegdgjnpfifofaaW.PrintMore
set_option linter.unusedVariables false
set_option linter.unusedSimpArgs false
theorem rdGateS_src {l : List S138} {i : Nat} (h : i < l.length) : rd_T138 l (i : Int) = l[i] := by
  show l.getD (i : Int).toNat z138 = l[i]
  rw [Int.toNat_natCast, getD_at h]
theorem rdGateS {l : List S94} {i : Nat} (h : i < l.length) : rd_T94 l (i : Int) = l[i] := by
  show l.getD (i : Int).toNat z94 = l[i]
  rw [Int.toNat_natCast, getD_at h]
def convGateS (l : List S138) : List S94 := l.map fun x => ⟨x.f0, x.f1, x.f2, x.f3⟩
theorem convGateS_length (l : List S138) : (convGateS l).length = l.length := by simp [convGateS]
theorem szGateS_big {l : List S138} {a : Int} (ha : 0 ≤ a) (ha2 : a ≤ 1048576) (hl : l.length ≤ 9223372036854775807) (h : a < l.length) : laws_szGateS.f l a = some (-1) := by
  unfold laws_szGateS.f; rw [w64 (by omega) (by omega), if_pos (by omega)]
theorem szGateS_fit {l : List S138} {a : Int} (ha2 : a ≤ 1048576) (h : (l.length : Int) ≤ a) : laws_szGateS.f l a = some (a - l.length) := by
  unfold laws_szGateS.f; rw [w64 (by omega) (by omega), if_neg (by omega)]
theorem toGateS_l0 (l : List S138) (hl : l.length ≤ 1048576) (d : Nat) : ∀ (k i : Nat), i + d = l.length → d < k →
    laws_toGateS.l0 k l (convGateS (l.take i) ++ List.replicate d z94) i = some (convGateS l) := by
  induction d with
  | zero =>
    intro k i hi hk
    obtain ⟨k, rfl⟩ : ∃ m, k = m + 1 := ⟨k - 1, by omega⟩
    simp only [laws_toGateS.l0]; rw [if_neg (by omega), List.take_of_length_le (by omega)]; simp
  | succ d ih =>
    intro k i hi hk
    obtain ⟨k, rfl⟩ : ∃ m, k = m + 1 := ⟨k - 1, by omega⟩
    have hlt : i < l.length := by omega
    have hlen : (convGateS (l.take i)).length = i := by rw [convGateS_length, List.length_take]; omega
    simp only [laws_toGateS.l0, laws_toGate.f]
    rw [if_pos (by omega), if_pos (by omega), rdGateS_src hlt]
    simp only [bS]
    rw [if_pos (by rw [List.length_append, hlen, List.length_replicate]; omega), Int.toNat_natCast, List.replicate_succ]
    have hs := fun y => set_mid (convGateS (l.take i)) (List.replicate d z94) z94 y
    rw [hlen] at hs
    rw [hs, w64 (by omega) (by omega), show (i : Int) + 1 = ((i + 1 : Nat) : Int) by omega]
    have := ih k (i + 1) (by omega) (by omega)
    rw [List.take_succ_eq_append_getElem hlt] at this
    simp only [convGateS, List.map_append, List.map_cons, List.map_nil, List.append_assoc, List.cons_append, List.nil_append] at this
    exact this
theorem toGateS_eq {l : List S138} (hl : l.length ≤ 1048576) {k : Nat} (hk : l.length < k) : laws_toGateS.f k l = some (convGateS l) := by
  unfold laws_toGateS.f
  rw [if_pos (by omega), if_pos (by omega)]
  have := toGateS_l0 l (by omega) l.length k 0 (by omega) hk
  rw [Int.natCast_zero, List.take_zero] at this
  rw [Int.toNat_natCast]
  exact this
theorem eqGate_refl (x : S94) : laws_eqGate.f x.f0 x.f1 x.f2 x.f3 x.f0 x.f1 x.f2 x.f3 = some true := by
  unfold laws_eqGate.f; rw [if_pos rfl, if_pos rfl, if_pos rfl, if_pos rfl]
theorem eqGateS_l0 (a : List S94) (hl : a.length ≤ 1048576) (d : Nat) : ∀ (k i : Nat), i + d = a.length → d < k → laws_eqGateS.l0 k a a i = some true := by
  induction d with
  | zero =>
    intro k i hi hk
    obtain ⟨k, rfl⟩ : ∃ m, k = m + 1 := ⟨k - 1, by omega⟩
    simp only [laws_eqGateS.l0]; rw [if_neg (by omega)]
  | succ d ih =>
    intro k i hi hk
    obtain ⟨k, rfl⟩ : ∃ m, k = m + 1 := ⟨k - 1, by omega⟩
    simp only [laws_eqGateS.l0]
    rw [if_pos (show (i : Int) < (a.length : Int) by omega), if_pos (show 0 ≤ (i : Int) by omega), if_pos (show (i : Int) < (a.length : Int) by omega), eqGate_refl]
    simp only [bS, if_true]
    rw [w64 (by omega) (by omega), show (i : Int) + 1 = ((i + 1 : Nat) : Int) by omega]
    exact ih k (i + 1) (by omega) (by omega)
theorem eqGateS_refl {a : List S94} (hl : a.length ≤ 1048576) {k : Nat} (hk : a.length < k) : laws_eqGateS.f k a a = some true := by
  unfold laws_eqGateS.f; rw [if_pos rfl]; exact eqGateS_l0 a hl a.length k 0 (by omega) hk
theorem szCircuit_big {l : List S138} {a : Int} (ha : 0 ≤ a) (ha2 : a ≤ 1048576) (hl : l.length ≤ 9223372036854775807) (h : a < l.length) : laws_szCircuit.f l a = some (-1) := by
  unfold laws_szCircuit.f; rw [szGateS_big ha ha2 hl h]; simp only [bS]; rw [if_pos (by omega)]
theorem szCircuit_fit {l : List S138} {a : Int} (ha2 : a ≤ 1048576) (h : (l.length : Int) ≤ a) : laws_szCircuit.f l a = some (a - l.length) := by
  unfold laws_szCircuit.f; rw [szGateS_fit ha2 h]; simp only [bS]; rw [if_neg (by omega)]
theorem toCircuit_eq {l : List S138} (hl : l.length ≤ 1048576) {k : Nat} (hk : l.length < k) : laws_toCircuit.f k l = some (convGateS l) := by
  unfold laws_toCircuit.f; rw [toGateS_eq hl hk]; simp only [bS]
theorem eqCircuit_refl {a : List S94} (hl : a.length ≤ 1048576) {k : Nat} (hk : a.length < k) : laws_eqCircuit.f k a a = some true := by
  unfold laws_eqCircuit.f; rw [eqGateS_refl hl hk]; simp only [bS, if_true]
def gateB (x : S94) (i : Int) : Bool :=
  decide (1 ≤ x.f0 ∧ x.f0 ≤ 8) &&
  (if 4 ≤ x.f0 ∧ x.f0 ≤ 7 then decide (0 ≤ x.f1 ∧ x.f1 ≤ i - 1) && decide (0 ≤ x.f2 ∧ x.f2 ≤ i - 1) && (x.f3 == 0)
   else if x.f0 = 8 then decide (0 ≤ x.f1 ∧ x.f1 ≤ i - 1) && (x.f2 == 0) && (x.f3 == 0)
   else if x.f0 = 3 then (x.f1 == 0) && (x.f2 == 0) && decide (inF x.f3)
   else (x.f1 == 0) && (x.f2 == 0) && (x.f3 == 0))
theorem l11Gate_eq (x : S94) {i : Int} (h0 : 0 ≤ i) (h1 : i ≤ 1048576) {k : Nat} (hk : 0 < k) : spec_l11Gate.f k x.f0 x.f1 x.f2 x.f3 i = some (gateB x i) := by
  obtain ⟨k, rfl⟩ : ∃ m, k = m + 1 := ⟨k - 1, by omega⟩
  obtain ⟨a, b, c, d⟩ := x
  have j1 : ∀ e, spec_l11Gate.j0 (k + 1) e a b c d = some (if e = true then false else if a = 3 then decide (inF d) else (d == 0)) := by
    intro e
    simp only [spec_l11Gate.j0]
    cases e
    · simp only [Bool.false_eq_true, if_false]
      by_cases h3 : a = 3
      · rw [if_pos h3, if_pos h3, spec_FieldOK_eq]; rfl
      · rw [if_neg h3, if_neg h3]
    · rfl
  unfold spec_l11Gate.f gateB spec_l11Uses.f
  simp only [spec_l01In_eq, bS, j1]
  rw [w64 (n := i - 1) (by omega) (by omega)]
  by_cases hk : 1 ≤ a ∧ a ≤ 8
  · rw [decide_eq_true hk]
    simp only [if_true, Bool.true_and]
    by_cases h4 : 4 ≤ a ∧ a ≤ 7
    · have n3 : ¬ a = 3 := by omega
      rw [decide_eq_true h4, if_pos h4]
      simp only [if_true, bS, n3, if_false]
      by_cases hb : 0 ≤ b ∧ b ≤ i - 1
      · by_cases hc : 0 ≤ c ∧ c ≤ i - 1
        · simp [hb, hc]
        · simp [hb, hc]
      · simp [hb]
    · rw [decide_eq_false h4, if_neg h4]
      by_cases h8 : a = 8
      · have n3 : ¬ a = 3 := by omega
        simp only [h8, if_true, bS, Bool.false_eq_true, if_false]
        by_cases hb : 0 ≤ b ∧ b ≤ i - 1
        · by_cases hc : c = 0
          · simp [hb, hc]
          · simp [hb, hc]
        · simp [hb]
      · simp only [h8, if_false, bS, Bool.false_eq_true]
        by_cases hb : b = 0
        · by_cases hc : c = 0
          · by_cases h3 : a = 3
            · simp [hb, hc, h3]
            · simp [hb, hc, h3]
          · by_cases h3 : a = 3
            · simp [hb, hc, h3]
            · simp [hb, hc, h3]
        · by_cases h3 : a = 3
          · simp [hb, h3]
          · simp [hb, h3]
  · rw [decide_eq_false hk]; rfl
theorem isGate_eq (x : S94) {i : Int} (h0 : 0 ≤ i) (h1 : i ≤ 1048576) {k : Nat} (hk : 0 < k) : impl_isGate.f k x.f0 x.f1 x.f2 x.f3 i = some (gateB x i) := by
  obtain ⟨k, rfl⟩ : ∃ m, k = m + 1 := ⟨k - 1, by omega⟩
  obtain ⟨a, b, c, d⟩ := x
  unfold impl_isGate.f gateB
  simp only [impl_isGate.j0, impl_in_eq, impl_FieldOK_eq, bS]
  rw [w64 (n := i - 1) (by omega) (by omega)]
  by_cases h3 : a = 3
  · subst h3
    by_cases hb : b = 0 <;> by_cases hc : c = 0 <;> simp [hb, hc]
  · by_cases h4 : a = 4
    · subst h4
      by_cases hb : 0 ≤ b ∧ b ≤ i - 1 <;> by_cases hc : 0 ≤ c ∧ c ≤ i - 1 <;> simp [hb, hc]
    · by_cases h5 : a = 5
      · subst h5
        by_cases hb : 0 ≤ b ∧ b ≤ i - 1 <;> by_cases hc : 0 ≤ c ∧ c ≤ i - 1 <;> simp [hb, hc]
      · by_cases h6 : a = 6
        · subst h6
          by_cases hb : 0 ≤ b ∧ b ≤ i - 1 <;> by_cases hc : 0 ≤ c ∧ c ≤ i - 1 <;> simp [hb, hc]
        · by_cases h7 : a = 7
          · subst h7
            by_cases hb : 0 ≤ b ∧ b ≤ i - 1 <;> by_cases hc : 0 ≤ c ∧ c ≤ i - 1 <;> simp [hb, hc]
          · have n4 : ¬ (4 ≤ a ∧ a ≤ 7) := by omega
            by_cases h8 : a = 8
            · subst h8
              by_cases hb : 0 ≤ b ∧ b ≤ i - 1 <;> by_cases hc : c = 0 <;> simp [hb, hc]
            · by_cases hk : 1 ≤ a ∧ a ≤ 8
              · by_cases hb : b = 0 <;> by_cases hc : c = 0 <;> simp [h3, h4, h5, h6, h7, h8, n4, hk, hb, hc]
              · simp [h3, h4, h5, h6, h7, h8, n4, hk]
def cnt (a : Int) : List S94 → Int
  | [] => 0
  | x :: xs => (if x.f0 = a then 1 else 0) + cnt a xs
theorem count_l0 (l : List S94) (hl : l.length ≤ 1048576) (a : Int) (d : Nat) : ∀ (k i : Nat) (c : Int), i + d = l.length → d < k → 0 ≤ c → c ≤ i →
    spec_l11Count.l0 k a c i l = some (c + cnt a (l.drop i)) ∧ impl_Circuit_countOf.l0 k a c l (l.length : Int) i = some (c + cnt a (l.drop i)) := by
  induction d with
  | zero =>
    intro k i c hi hk h0 h1
    obtain ⟨k, rfl⟩ : ∃ m, k = m + 1 := ⟨k - 1, by omega⟩
    simp only [spec_l11Count.l0, impl_Circuit_countOf.l0]
    rw [if_neg (by omega), if_neg (by omega), List.drop_eq_nil_of_le (by omega)]
    simp [cnt]
  | succ d ih =>
    intro k i c hi hk h0 h1
    obtain ⟨k, rfl⟩ : ∃ m, k = m + 1 := ⟨k - 1, by omega⟩
    have hlt : i < l.length := by omega
    simp only [spec_l11Count.l0, impl_Circuit_countOf.l0, spec_l01Bit.f]
    rw [if_pos (show (i : Int) < (l.length : Int) by omega), if_pos (show 0 ≤ (i : Int) by omega), rdGateS hlt, if_pos (show (i : Int) < (l.length : Int) by omega), if_pos (show 0 ≤ (i : Int) by omega), if_pos (show (i : Int) < (l.length : Int) by omega), List.drop_eq_getElem_cons hlt,
      w64 (n := (i : Int) + 1) (by omega) (by omega), show (i : Int) + 1 = ((i + 1 : Nat) : Int) by omega]
    simp only [cnt]
    by_cases h : (l[i]).f0 = a
    · rw [if_pos (beq_iff_eq.2 h), if_pos h, if_pos h]
      simp only [bS]
      rw [w64 (by omega) (by omega)]
      have e := ih k (i + 1) (c + 1) (by omega) (by omega) (by omega) (by omega)
      rw [Int.add_assoc] at e
      exact e
    · rw [if_neg (fun e => h (beq_iff_eq.1 e)), if_neg h, if_neg h]
      simp only [bS]
      rw [w64 (by omega) (by omega), Int.add_zero, Int.zero_add]
      exact ih k (i + 1) c (by omega) (by omega) (by omega) (by omega)
theorem l11Count_eq {l : List S94} (hl : l.length ≤ 1048576) (a : Int) {k : Nat} (hk : l.length < k) : spec_l11Count.f k l a = some (cnt a l) := by
  have := (count_l0 l hl a l.length k 0 0 (by omega) hk (by omega) (by omega)).1
  rw [Int.natCast_zero, List.drop_zero, Int.zero_add] at this
  unfold spec_l11Count.f; exact this
theorem countOf_eq {l : List S94} (hl : l.length ≤ 1048576) (a : Int) {k : Nat} (hk : l.length < k) : impl_Circuit_countOf.f k l a = some (cnt a l) := by
  have := (count_l0 l hl a l.length k 0 0 (by omega) hk (by omega) (by omega)).2
  rw [Int.natCast_zero, List.drop_zero, Int.zero_add] at this
  unfold impl_Circuit_countOf.f; exact this
def gatesB : Int → List S94 → Bool
  | _, [] => true
  | i, x :: xs => gateB x i && gatesB (i + 1) xs
def circB (l : List S94) : Bool := decide (1 ≤ (l.length : Int) ∧ (l.length : Int) ≤ 15) && (gatesB 0 l && decide (cnt 2 l ≤ 7))
theorem circuit_l0 (l : List S94) (hl : l.length ≤ 1048576) (d : Nat) : ∀ (k i : Nat), i + d = l.length → d + l.length + 1 < k →
    spec_CircuitOK.l0 k i l = some (gatesB i (l.drop i) && decide (cnt 2 l ≤ 7)) ∧ impl_CircuitOK.l0 k l (l.length : Int) i l = some (gatesB i (l.drop i) && decide (cnt 2 l ≤ 7)) := by
  induction d with
  | zero =>
    intro k i hi hk
    obtain ⟨k, rfl⟩ : ∃ m, k = m + 1 := ⟨k - 1, by omega⟩
    simp only [spec_CircuitOK.l0, impl_CircuitOK.l0]
    rw [if_neg (by omega), if_neg (by omega), l11Count_eq hl 2 (by omega), countOf_eq hl 2 (by omega), List.drop_eq_nil_of_le (by omega)]
    simp only [bS, gatesB, Bool.true_and]
    exact ⟨trivial, trivial⟩
  | succ d ih =>
    intro k i hi hk
    obtain ⟨k, rfl⟩ : ∃ m, k = m + 1 := ⟨k - 1, by omega⟩
    have hlt : i < l.length := by omega
    have q1 := l11Gate_eq l[i] (i := (i : Int)) (by omega) (by omega) (k := k) (by omega)
    have q2 := isGate_eq l[i] (i := (i : Int)) (by omega) (by omega) (k := k) (by omega)
    simp only [spec_CircuitOK.l0, impl_CircuitOK.l0]
    rw [if_pos (show (i : Int) < (l.length : Int) by omega), if_pos (show 0 ≤ (i : Int) by omega), rdGateS hlt, if_pos (show (i : Int) < (l.length : Int) by omega), if_pos (show 0 ≤ (i : Int) by omega), if_pos (show (i : Int) < (l.length : Int) by omega), q1, q2, List.drop_eq_getElem_cons hlt,
      w64 (n := (i : Int) + 1) (by omega) (by omega), show (i : Int) + 1 = ((i + 1 : Nat) : Int) by omega]
    simp only [bS, gatesB]
    by_cases h : gateB l[i] (i : Int) = true
    · rw [if_pos h, if_pos h, h, Bool.true_and, show (i : Int) + 1 = ((i + 1 : Nat) : Int) by omega]
      exact ih k (i + 1) (by omega) (by omega)
    · rw [if_neg h, if_neg h, Bool.eq_false_iff.mpr h]
      exact ⟨rfl, rfl⟩
theorem spec_CircuitOK_eq {l : List S94} (hl : l.length ≤ 1048576) {k : Nat} (hk : 2 * l.length + 5 < k) : spec_CircuitOK.f k l = some (circB l) := by
  unfold spec_CircuitOK.f circB
  rw [spec_l01In_eq]
  simp only [bS]
  by_cases h : 1 ≤ (l.length : Int) ∧ (l.length : Int) ≤ 15
  · have e := (circuit_l0 l hl l.length k 0 (by omega) (by omega)).1
    rw [Int.natCast_zero, List.drop_zero] at e
    rw [decide_eq_true h, if_pos rfl, e, Bool.true_and]
  · rw [decide_eq_false h]; rfl
theorem impl_CircuitOK_eq {l : List S94} (hl : l.length ≤ 1048576) {k : Nat} (hk : 2 * l.length + 5 < k) : impl_CircuitOK.f k l = some (circB l) := by
  unfold impl_CircuitOK.f circB
  rw [impl_in_eq]
  simp only [bS]
  by_cases h : 1 ≤ (l.length : Int) ∧ (l.length : Int) ≤ 15
  · have e := (circuit_l0 l hl l.length k 0 (by omega) (by omega)).2
    rw [Int.natCast_zero, List.drop_zero] at e
    rw [decide_eq_true h, if_pos rfl, e, Bool.true_and]
  · rw [decide_eq_false h]; rfl
end Go.Proofs.Ytegdgjnpfifofaa.PT
end
section
/- A circuit's gates are counted alike on both sides, the circuit untouched. -/
namespace Go.Proofs.Ytegdgjnpfifofaa.fnExactCountOf
open Go.Proofs.Ytegdgjnpfifofaa.PT Go.RowKit Go.Proofs.YtegdgjnpfifofaaO
set_option linter.unusedSimpArgs false
theorem same (l : List S94) (a : Int) (hl : l.length ≤ 1048576) {k : Nat} (hk : 2 * l.length + 5 < k) : ∃ r, spec_CountOf.f k l a = some r ∧ impl_CountOf.f k l a = some r := by
  unfold spec_CountOf.f impl_CountOf.f
  rw [spec_CircuitOK_eq hl hk, impl_CircuitOK_eq hl hk]
  simp only [bS]
  by_cases h : circB l = true
  · rw [if_pos h, if_pos h, spec_l01In_eq, impl_in_eq]
    simp only [bS]
    by_cases h2 : 1 ≤ a ∧ a ≤ 8
    · rw [decide_eq_true h2]
      simp only [if_true]
      rw [l11Count_eq hl a (by omega), countOf_eq hl a (by omega)]; exact ⟨_, rfl, rfl⟩
    · rw [decide_eq_false h2]; exact ⟨_, rfl, rfl⟩
  · rw [if_neg h, if_neg h]; exact ⟨_, rfl, rfl⟩
theorem pureFnExactCountOf : Pure := by
  intro x a hx ha
  have hx1 : x.f0.length ≤ 9223372036854775807 := hx.1
  by_cases h : (x.f0.length : Int) ≤ 1048576
  · have hl := convGateS_length x.f0
    refine ⟨2 * x.f0.length + 10 + 1, ?_⟩
    unfold laws_FnExactCountOf.f
    obtain ⟨r, e1, e2⟩ := same (convGateS x.f0) a (by omega) (k := 2 * x.f0.length + 10 + 1) (by omega)
    rw [szCircuit_fit (by omega) h]
    simp only [bS]
    rw [if_neg (by omega), toCircuit_eq (by omega) (by omega)]
    simp only [bS]
    rw [e1, e2]
    simp only [bS, bne_self_eq_false, if_true, laws_FnExactCountOf.j0, Bool.false_eq_true, if_false]
    rw [toCircuit_eq (by omega) (by omega)]
    simp only [bS]
    rw [eqCircuit_refl (by omega) (by omega)]
    simp only [bS, if_true]
  · refine ⟨1, ?_⟩
    unfold laws_FnExactCountOf.f
    rw [szCircuit_big (by omega) (by omega) hx1 (by omega)]
    simp
end Go.Proofs.Ytegdgjnpfifofaa.fnExactCountOf
end
