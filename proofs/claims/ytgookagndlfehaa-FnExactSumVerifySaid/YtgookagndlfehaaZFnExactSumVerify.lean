/- FnExactSumVerify holds: for every input the call returns true and leaves its arguments as they were. -/
import Derived.Test.YtgookagndlfehaaProg
import Derived.Test.YtgookagndlfehaaVMore
import Derived.Test.YtgookagndlfehaaVWords
import Derived.Test.YtgookagndlfehaaVLast
import Derived.Test.YtgookagndlfehaaVTab
import Derived.Test.YtgookagndlfehaaVFour
import Derived.Test.YtgookagndlfehaaVQPut
import Derived.Test.YtgookagndlfehaaVApart
import Derived.Test.YtgookagndlfehaaVArr
import Derived.Test.YtgookagndlfehaaVZeros
import Derived.Test.YtgookagndlfehaaVFoot
import Derived.Test.YtgookagndlfehaaVKept
import Derived.Test.YtgookagndlfehaaVShare
import Derived.Test.YtgookagndlfehaaVN
import Derived.Test.YtgookagndlfehaaVFootNe
import Derived.Test.YtgookagndlfehaaVAt
import Derived.Test.YtgookagndlfehaaVRepsOne
import Derived.Test.YtgookagndlfehaaVInv
import Derived.Test.YtgookagndlfehaaVInvWords
import Derived.Test.YtgookagndlfehaaVGuard
import Derived.Test.YtgookagndlfehaaVNEv
import Derived.Test.YtgookagndlfehaaRows
import Derived.JoinedOf
import Derived.WalkKit
import Derived.ProofKit
import Derived.Below
import Derived.Deep.Draws
import Derived.Deep.AppendLies
import Derived.Maps.AppendAt
import Derived.OwnWalk
import Derived.Laws.BytesArg
import Derived.Laws.MakeOwn
import Derived.Laws.OwnMore
import Derived.Deep.OwnRows
import Derived.Tactics
import Derived.Lib.ConvBytes
import Derived.Laws.Slices
import Derived.KernelRfl
import Derived.RowKit3
import Derived.Deep.LoopGhost
import Derived.Deep.QuietTactic
import Derived.BigQuiet
import Derived.WideLaws
import Derived.Deep.DeepCutAuto
import Derived.Deep.CutBlock
import Derived.Deep.RegionHeld3
import Derived.Laws.Rows
import Derived.Lib.AppendStr
import Derived.ArgAppend
import Derived.Laws.IdiomCopy
import Derived.OrdersHeld
import Derived.Laws.BitsLemmas
import Derived.RowKit
import Derived.Deep.DeepMust
import Derived.Laws.CopyOwn
import Derived.Lib.BufferMore
import Derived.Lib.SliceRun
import Derived.OpenShut
import Derived.ShutString
import Derived.ChangeOld
import Derived.SizedLaws
import Derived.Deep.Slices
import Derived.ChangeArms
import Derived.Shelf.Small.Bits
import Derived.Shelf.Strconv.Itoa0
import Derived.Laws.Bits64b
import Derived.Test.YtgookagndlfehaaZFnExactSumVerify5
namespace Go.Proofs.Ytgookagndlfehaa.fnExactSumVerify
open Go.RowKit Go.ChangeShapes Go.WideShapes Go.ChangeAt Go.Proofs.YtgookagndlfehaaO Go.Proofs.Ytgookagndlfehaa.PT Go.Proofs.YtgookagndlfehaaW.PrintWords Go.Proofs.YtgookagndlfehaaW.PrintLast
open Go.ChangeMaps (open_string shut_string)
set_option linter.unusedVariables false
set_option maxRecDepth 100000 in
set_option maxHeartbeats 1000000 in
theorem lifted (os : Os) (started : os.Started) (H : Type) (enc : TypeId × Value → H) :
    ReturnsInHanded {} Try.checked os 6 .any (Rows.fnExactSumVerifySpec.pre6 enc Try.prog Try.f6 Rows.fnExactSumVerifyRow.domain false) (Rows.fnExactSumVerifySpec.post enc Try.prog Try.f6 false true false false) := by
  refine returnsInHanded_of_change_sized (C := Try.checked) own started (by kernel_rfl) Try.func6
    (ChangeSpec.witness6 (enc := enc) (C := Try.checked) false ⟨#[], #[.int .i64 0, .agg #[.int .i64 0, .int .i64 0], .slice none 0 0, .int .i64 0, .agg #[.slice none 0 0, .int .i64 0, .string ByteArray.empty, .int .i64 0]], []⟩ 8 (by kernel_rfl) (by kernel_rfl) (by kernel_rfl) (by kernel_rfl)) ?_
  intro W base args ds gs before hval0 hW hcnd hsz0 _
  have hval : ∀ (j : Nat) t v, Try.f6.params[j]? = some t → args[j]? = some v → Value.okWide Try.prog W .any base t v := hval0
  have hW' := hW
  obtain ⟨p, q, hA0, hV, rfl, hfz, hnd⟩ := hW
  have hA : DataW.TrodAll enc Try.prog W 0 (fun _ => true) true Try.f6.params.toList args.toList ds p := hA0
  rw [Try.params6] at hA hval
  obtain ⟨v0, vs0, d0, ds0, p0, q0, hargs, rfl, rfl, h0, r0⟩ := trodAll_cons hA
  obtain ⟨v1, vs1, d1, ds1, p1, q1, rfl, rfl, rfl, h1, r1⟩ := trodAll_cons r0
  obtain ⟨v2, vs2, d2, ds2, p2, q2, rfl, rfl, rfl, h2, r2⟩ := trodAll_cons r1
  obtain ⟨v3, vs3, d3, ds3, p3, q3, rfl, rfl, rfl, h3, r3⟩ := trodAll_cons r2
  obtain ⟨v4, vs4, d4, ds4, p4, q4, rfl, rfl, rfl, h4, r4⟩ := trodAll_cons r3
  obtain ⟨rfl, rfl, rfl⟩ := trodAll_nil r4
  obtain rfl : args = #[v0, v1, v2, v3, v4] := by cases args; simp_all
  obtain ⟨rfl, rfl⟩ := trodVars_none hV
  obtain ⟨x0, rfl, rfl, rfl, g0⟩ := open_int Try.underlying3 (hval 0 3 v0 rfl rfl) h0
  obtain ⟨cs1, rfl, _⟩ := okWide_struct Try.underlying56 (hval 1 56 v1 rfl rfl)
  have k1 := h1
  have lt1 : ∀ x ∈ p1, x.block < W.heap.size := by obtain ⟨m, hm⟩ := k1; exact DataW.trod_lt m _ _ _ hm
  obtain ⟨fu1, hf1⟩ := h1
  obtain ⟨x1, hK1, g1⟩ := zne (enc := enc) (w := W) _ _ _ hf1
  obtain hc1 := zmz hK1
  have hc1b : cs1.toList = _ := hc1
  obtain rfl : cs1 = #[.int .i64 x1.f0, .int .i64 x1.f1] := Array.toList_inj.mp hc1b
  obtain ⟨a2, len2, cap2, rfl⟩ := okWide_slice Try.underlying57 (hval 2 57 v2 rfl rfl)
  have k2 := h2
  have lt2 : ∀ x ∈ p2, x.block < W.heap.size := by obtain ⟨m, hm⟩ := k2; exact DataW.trod_lt m _ _ _ hm
  obtain ⟨fu2, hf2⟩ := h2
  obtain ⟨x2, hK2, g2⟩ := opensT57 (enc := enc) (w := W) _ _ _ hf2
  obtain ⟨A2, c2, hc2, hl2, hC2⟩ := hK2
  simp only [Value.cells, List.cons.injEq, Value.slice.injEq, and_true] at hc2
  obtain ⟨rfl, rfl, rfl⟩ := hc2
  obtain ⟨x3, rfl, rfl, rfl, g3⟩ := open_int Try.underlying3 (hval 3 3 v3 rfl rfl) h3
  obtain ⟨cs4, rfl, _⟩ := okWide_struct Try.underlying59 (hval 4 59 v4 rfl rfl)
  have k4 := h4
  have lt4 : ∀ x ∈ p4, x.block < W.heap.size := by obtain ⟨m, hm⟩ := k4; exact DataW.trod_lt m _ _ _ hm
  obtain ⟨fu4, hf4⟩ := h4
  obtain ⟨x4, hK4, g4⟩ := opensT59 (enc := enc) (w := W) _ _ _ hf4
  obtain ⟨A4_0, c4_0, hc4, hl4_0, hC4_0⟩ := k59_open hK4
  have hc4b : cs4.toList = _ := hc4
  obtain rfl : cs4 = #[.slice A4_0 x4.f0.length c4_0, .int .i64 x4.f1, .string x4.f2, .int .i64 x4.f3] := Array.toList_inj.mp hc4b
  obtain ⟨kk, hk⟩ := zgq x0 x1 x2 x3 x4 g0 g1 g2 g3 g4
  clear hA0 hval0 hsz0
  refine (zao.calls kk x0 x1.f0 x1.f1 _ _ x2 x3 _ _ x4.f0 x4.f1 x4.f2 x4.f3 true W hC2 hl2 hC4_0 hl4_0 rfl hk).mono fun e W' ⟨he, bel0⟩ => ?_
  have bel : Below W.heap.size W W' := bel0
  subst he
  exact ⟨_, rfl, _, _, _, [], _, [], hW', trodAll_mk1 (shut_bool Try.underlying4 _), (trodAll_cons_mk (shut_int Try.underlying3 g0) (trodAll_cons_mk (Below.trod laidOut (by kernel_rfl) (of_decide_eq_true (by kernel_rfl)) k1 bel lt1) (trodAll_cons_mk (Below.trod laidOut (by kernel_rfl) (of_decide_eq_true (by kernel_rfl)) k2 bel lt2) (trodAll_cons_mk (shut_int Try.underlying3 g3) (trodAll_cons_mk (Below.trod laidOut (by kernel_rfl) (of_decide_eq_true (by kernel_rfl)) k4 bel lt4) trodAll_mk0))))), rfl, bel.frame _, fun h => by cases h⟩
set_option maxRecDepth 100000 in
set_option maxHeartbeats 4000000 in
theorem closed : joinedFacts Try.pinned.checked.prog 6 Try.f6 Rows.fnExactSumVerifySpec Rows.fnExactSumVerifyRow = true := by
  unfold joinedFacts
  exact allOf (by as_aux_lemma => kernel_rfl) laidOut mapsAre (by as_aux_lemma => kernel_rfl) (by as_aux_lemma => kernel_rfl) (by as_aux_lemma => kernel_rfl) (by as_aux_lemma => kernel_rfl) (by as_aux_lemma => kernel_rfl) (by as_aux_lemma => kernel_rfl) (by as_aux_lemma => kernel_rfl) (by as_aux_lemma => kernel_rfl) (by as_aux_lemma => kernel_rfl) (by as_aux_lemma => kernel_rfl) (by as_aux_lemma => kernel_rfl) (by as_aux_lemma => kernel_rfl) (by as_aux_lemma => kernel_rfl) (by as_aux_lemma => kernel_rfl) (by as_aux_lemma => kernel_rfl) (by as_aux_lemma => kernel_rfl) (by as_aux_lemma => kernel_rfl) (by as_aux_lemma => kernel_rfl) (by as_aux_lemma => kernel_rfl) (by as_aux_lemma => kernel_rfl) (by as_aux_lemma => kernel_rfl) (by as_aux_lemma => kernel_rfl) enters (sameNo rfl liftsNot) (sameCut makes) (by as_aux_lemma => kernel_rfl) (by as_aux_lemma => kernel_rfl) (by as_aux_lemma => kernel_rfl) (by as_aux_lemma => kernel_rfl)
theorem zof : decide (Check.packageOf Try.f6.name = "main") = false := by kernel_rfl
theorem wrapped : Func.isWrapper Try.pinned.checked.prog Try.f6 false "" := @notMain Try.pinned.checked.prog Try.f6 zof
theorem over : Rows.fnExactSumVerifyRow.holds Try.pinned (OpenSpec.ofChange Rows.fnExactSumVerifySpec) :=
  OpenClaim.holds_of_wide 6 Try.f6 rfl rfl rfl rfl rfl rfl rfl ⟨rfl, rfl, rfl, rfl, rfl⟩ rfl rfl rfl rfl rfl (by kernel_rfl) Try.func6 closed
    (of_decide_eq_true (by kernel_rfl)) wrapped
    (fun os started H enc _ => lifted os started H enc)
theorem proved : Rows.FnExactSumVerifySaid := over
#print axioms proved
end Go.Proofs.Ytgookagndlfehaa.fnExactSumVerify
namespace Go.Proofs.Ytgookagndlfehaa
/-- The row, under a short name, for the claim. -/
theorem fnExactSumVerify_holds : Rows.FnExactSumVerifySaid := fnExactSumVerify.proved
end Go.Proofs.Ytgookagndlfehaa
