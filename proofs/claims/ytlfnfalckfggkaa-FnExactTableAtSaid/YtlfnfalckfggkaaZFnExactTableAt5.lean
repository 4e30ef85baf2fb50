/- Part 5 of the proof of FnExactTableAt: what functions compute, shown step by step, and what that says (the claim's last text states the law). -/
import Derived.Test.YtlfnfalckfggkaaProg
import Derived.Test.YtlfnfalckfggkaaWMore
import Derived.Test.YtlfnfalckfggkaaWWords
import Derived.Test.YtlfnfalckfggkaaWLast
import Derived.Test.YtlfnfalckfggkaaWTab
import Derived.Test.YtlfnfalckfggkaaWFour
import Derived.Test.YtlfnfalckfggkaaWQPut
import Derived.Test.YtlfnfalckfggkaaWApart
import Derived.Test.YtlfnfalckfggkaaWArr
import Derived.Test.YtlfnfalckfggkaaWZeros
import Derived.Test.YtlfnfalckfggkaaWFoot
import Derived.Test.YtlfnfalckfggkaaWKept
import Derived.Test.YtlfnfalckfggkaaWShare
import Derived.Test.YtlfnfalckfggkaaWN
import Derived.Test.YtlfnfalckfggkaaWFootNe
import Derived.Test.YtlfnfalckfggkaaWAt
import Derived.Test.YtlfnfalckfggkaaWEqStruct
import Derived.Test.YtlfnfalckfggkaaWRepsOne
import Derived.Test.YtlfnfalckfggkaaWInv
import Derived.Test.YtlfnfalckfggkaaWInvWords
import Derived.Test.YtlfnfalckfggkaaWGuard
import Derived.Test.YtlfnfalckfggkaaWNEv
import Derived.Test.YtlfnfalckfggkaaRows
import Derived.JoinedOf
import Derived.WalkKit
import Derived.ProofKit
import Derived.Below
import Derived.Deep.Draws
import Derived.Deep.AppendLies
import Derived.Maps.AppendAt
import Derived.OwnWalk
import Derived.Laws.BytesArg
import Derived.Laws.MakeOwn
import Derived.Laws.OwnMore
import Derived.Deep.OwnRows
import Derived.Tactics
import Derived.Lib.ConvBytes
import Derived.Laws.Slices
import Derived.KernelRfl
import Derived.RowKit3
import Derived.Deep.LoopGhost
import Derived.Deep.QuietTactic
import Derived.BigQuiet
import Derived.WideLaws
import Derived.Deep.DeepCutAuto
import Derived.Deep.CutBlock
import Derived.Deep.RegionHeld3
import Derived.Laws.Rows
import Derived.Lib.AppendStr
import Derived.ArgAppend
import Derived.Laws.IdiomCopy
import Derived.OrdersHeld
import Derived.Laws.BitsLemmas
import Derived.RowKit
import Derived.OpenShut
import Derived.ShutString
import Derived.ChangeOld
import Derived.SizedLaws
import Derived.Deep.Slices
import Derived.ChangeArms
import Derived.Test.YtlfnfalckfggkaaZFnExactTableAt4
section
/- A table's value at a point, alike on both sides, the lists untouched. -/
namespace Go.Proofs.Ytlfnfalckfggkaa.fnExactTableAt
open Go.Proofs.Ytlfnfalckfggkaa.PT Go.RowKit Go.Proofs.YtlfnfalckfggkaaO Go.Proofs.YtlfnfalckfggkaaW.PrintWords Go.Proofs.YtlfnfalckfggkaaW.PrintLast Go.Proofs.YtlfnfalckfggkaaW.PrintMore
set_option linter.unusedSimpArgs false
theorem same (l m : List E) (hl : l.length + m.length ≤ 1048576) {k : Nat} (hk : l.length + m.length + 5000 ≤ k) : ∃ r, spec_TableAt.f k l m = some r ∧ impl_TableAt.f k l m = some r := by
  obtain ⟨k, rfl⟩ : ∃ m, k = m + 1 + 1 := ⟨k - 2, by omega⟩
  unfold spec_TableAt.f impl_TableAt.f
  have big : ∃ r, spec_TableAt.j0 (k + 1 + 1) l m true = some r ∧ impl_TableAt.j0 (k + 1 + 1) l m true = some r := by
    simp only [spec_TableAt.j0, impl_TableAt.j0, if_true]; exact ⟨_, rfl, rfl⟩
  have bad : ∃ r, spec_TableAt.j1 (k + 1) l m true = some r ∧ impl_TableAt.j1 (k + 1) l m true = some r := by
    simp only [spec_TableAt.j1, impl_TableAt.j1, if_true]; exact ⟨_, rfl, rfl⟩
  by_cases h1 : (l.length : Int) > 4096
  · rw [if_pos h1, if_pos h1]; exact big
  rw [if_neg h1, if_neg h1]
  by_cases h2 : (m.length : Int) > 4096
  · rw [decide_eq_true h2]; exact big
  rw [decide_eq_false h2]
  simp only [spec_TableAt.j0, impl_TableAt.j0, Bool.false_eq_true, if_false]
  rw [spec_TableOK_eq (by omega) (by omega), impl_TableOK_eq]
  simp only [bS]
  by_cases p1 : (pow2B l.length 64 && okLB l) = true
  · rw [if_pos p1, if_pos p1, l06Point_eq (by omega), isPoint_eq]
    simp only [bS]
    by_cases p2 : pointB m = true
    · obtain ⟨hm6, hmk⟩ := pointB_iff p2
      have hlk : okL l := (okLB_iff l).1 (by rw [Bool.and_eq_true] at p1; exact p1.2)
      have hu : IntKind.u64.wrap (m.length : Int) = (m.length : Int) := by simp only [IntKind.wrap, IntKind.bits, IntKind.signed]; simp; omega
      have hs : shl .i64 1 (m.length : Int) = ((2 ^ m.length : Nat) : Int) := shl_small (by omega)
      rw [p2]
      simp only [Bool.not_true, spec_TableAt.j1, impl_TableAt.j1, Bool.false_eq_true, if_false]
      rw [hu, hs, if_pos (by omega)]
      by_cases h3 : (l.length : Int) = ((2 ^ m.length : Nat) : Int)
      · rw [if_pos h3, if_pos h3]
        unfold spec_l06At.f impl_dot.f
        rw [l06Eq_eq hmk hm6 (by omega), eqTable_eq hmk hm6 (by omega)]
        simp only [bS]
        obtain ⟨q, e1, e2⟩ := at_l0 l (eqTab m) hlk (eqTab_ok m) (by rw [eqTab_length]; omega) (by omega) l.length k 0 zE (by omega) (by omega) ok_zero
        have e1' : spec_l06At.l0 k l (eqTab m) 0 0 0 = some q := e1
        have e2' : impl_dot.l0 k (eqTab m) l (l.length : Int) 0 0 0 = some q := e2
        rw [e1', e2']; exact ⟨_, rfl, rfl⟩
      · rw [if_neg h3, if_neg h3]; exact ⟨_, rfl, rfl⟩
    · rw [Bool.eq_false_iff.mpr p2]; exact bad
  · rw [if_neg p1, if_neg p1]; exact bad
theorem pureFnExactTableAt : Pure := by
  intro x y hx hy
  by_cases h : (x.length : Int) ≤ 1048576
  · by_cases h2 : (y.length : Int) ≤ 1048576 - x.length
    · have hl := convL_length x
      have hm := convL_length y
      refine ⟨(x.length + y.length + 5000) + 1, ?_⟩
      unfold laws_FnExactTableAt.f
      generalize hK : x.length + y.length + 5000 = K
      obtain ⟨r, e1, e2⟩ := same (convL x) (convL y) (by omega) (k := K + 1) (by omega)
      rw [szExtS_fit (by omega) h]
      simp only [bS]
      rw [if_neg (by omega), szExtS_fit (by omega) h2]
      simp only [bS]
      rw [if_neg (by omega), toExtS_eq (k := K + 1) (by omega) (by omega), toExtS_eq (k := K + 1) (by omega) (by omega)]
      simp only [bS]
      rw [e1, e2]
      simp only [bS]
      rw [eqExt_refl]
      simp only [bS, if_true, bne_self_eq_false, laws_FnExactTableAt.j0, Bool.false_eq_true, if_false]
      rw [toExtS_eq (k := K) (by omega) (by omega), toExtS_eq (k := K) (by omega) (by omega)]
      simp only [bS]
      rw [eqExtS_refl (k := K) (by omega) (by omega)]
      simp only [bS, if_true]
      rw [eqExtS_refl (k := K) (by omega) (by omega)]
      simp only [bS, if_true]
    · refine ⟨1, ?_⟩
      unfold laws_FnExactTableAt.f
      rw [szExtS_fit (by omega) h]
      simp only [bS]
      rw [if_neg (by omega), szExtS_big (by omega) (by omega) hy.1 (by omega)]
      simp
  · refine ⟨1, ?_⟩
    unfold laws_FnExactTableAt.f
    rw [szExtS_big (by omega) (by omega) hx.1 (by omega)]
    simp
end Go.Proofs.Ytlfnfalckfggkaa.fnExactTableAt
end
