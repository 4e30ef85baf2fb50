/- Part 6 of the proof of FnExactMulMatrix: what functions compute, shown step by step, and what that says (the claim's last text states the law). -/
import Derived.Test.YtegdgjnpfifofaaProg
import Derived.Test.YtegdgjnpfifofaaWMore
import Derived.Test.YtegdgjnpfifofaaWWords
import Derived.Test.YtegdgjnpfifofaaWLast
import Derived.Test.YtegdgjnpfifofaaWTab
import Derived.Test.YtegdgjnpfifofaaWFour
import Derived.Test.YtegdgjnpfifofaaWQPut
import Derived.Test.YtegdgjnpfifofaaWApart
import Derived.Test.YtegdgjnpfifofaaWArr
import Derived.Test.YtegdgjnpfifofaaWZeros
import Derived.Test.YtegdgjnpfifofaaWFoot
import Derived.Test.YtegdgjnpfifofaaWKept
import Derived.Test.YtegdgjnpfifofaaWShare
import Derived.Test.YtegdgjnpfifofaaWN
import Derived.Test.YtegdgjnpfifofaaWFootNe
import Derived.Test.YtegdgjnpfifofaaWAt
import Derived.Test.YtegdgjnpfifofaaWEqStruct
import Derived.Test.YtegdgjnpfifofaaWRepsOne
import Derived.Test.YtegdgjnpfifofaaWInv
import Derived.Test.YtegdgjnpfifofaaWInvWords
import Derived.Test.YtegdgjnpfifofaaWGuard
import Derived.Test.YtegdgjnpfifofaaWNEv
import Derived.Test.YtegdgjnpfifofaaRows
import Derived.JoinedOf
import Derived.WalkKit
import Derived.ProofKit
import Derived.Below
import Derived.Deep.Draws
import Derived.Deep.AppendLies
import Derived.Maps.AppendAt
import Derived.OwnWalk
import Derived.Laws.BytesArg
import Derived.Laws.MakeOwn
import Derived.Laws.OwnMore
import Derived.Deep.OwnRows
import Derived.Tactics
import Derived.Lib.ConvBytes
import Derived.Laws.Slices
import Derived.KernelRfl
import Derived.RowKit3
import Derived.Deep.LoopGhost
import Derived.Deep.QuietTactic
import Derived.BigQuiet
import Derived.WideLaws
import Derived.Deep.DeepCutAuto
import Derived.Deep.CutBlock
import Derived.Deep.RegionHeld3
import Derived.Laws.Rows
import Derived.Lib.AppendStr
import Derived.ArgAppend
import Derived.Laws.IdiomCopy
import Derived.OrdersHeld
import Derived.Laws.BitsLemmas
import Derived.RowKit
import Derived.OpenShut
import Derived.ShutString
import Derived.ChangeOld
import Derived.SizedLaws
import Derived.Deep.Slices
import Derived.ChangeArms
import Derived.Test.YtegdgjnpfifofaaZFnExactMulMatrix5
section
/- A matrix times numbers is alike on both sides, held apart and untouched. -/
namespace Go.Proofs.Ytegdgjnpfifofaa.fnExactMulMatrix
open Go.Proofs.Ytegdgjnpfifofaa.PT Go.RowKit Go.Proofs.YtegdgjnpfifofaaO Go.Proofs.YtegdgjnpfifofaaW.PrintWords Go.Proofs.YtegdgjnpfifofaaW.PrintLast Go.Proofs.YtegdgjnpfifofaaW.PrintMore
set_option linter.unusedSimpArgs false
theorem pow2B_32 {n : Int} (h : pow2B n 32 = true) : ∃ t : Nat, t ≤ 5 ∧ n = ((2 ^ t : Nat) : Int) := by
  unfold pow2B at h
  simp only [Bool.and_eq_true, Bool.or_eq_true, decide_eq_true_eq, beq_iff_eq] at h
  rcases (show n = 1 ∨ n = 2 ∨ n = 4 ∨ n = 8 ∨ n = 16 ∨ n = 32 by omega) with h | h | h | h | h | h
  · exact ⟨0, by omega, by omega⟩
  · exact ⟨1, by omega, by omega⟩
  · exact ⟨2, by omega, by omega⟩
  · exact ⟨3, by omega, by omega⟩
  · exact ⟨4, by omega, by omega⟩
  · exact ⟨5, by omega, by omega⟩
theorem same (l : List S82) (a : Int) (x : List Int) (hl : l.length ≤ 1048576) (hx : x.length ≤ 1048576) :
    ∃ r : List Int × Int, r.1.length ≤ 4096 ∧ ∀ k, l.length + x.length + 100000 ≤ k → spec_MulMatrix.f k l a x = some r ∧ impl_MulMatrix.f k l a x = some r := by
  by_cases h1 : (l.length : Int) > 4096
  · refine ⟨([], 2), by simp, fun k hk => ?_⟩
    obtain ⟨k, rfl⟩ : ∃ m, k = m + 1 := ⟨k - 1, by omega⟩
    unfold spec_MulMatrix.f impl_MulMatrix.f
    rw [if_pos h1, if_pos h1]
    simp only [spec_MulMatrix.j0, impl_MulMatrix.j0, if_true]
    constructor <;> first | rfl | trivial
  by_cases h2 : (x.length : Int) > 4096
  · refine ⟨([], 2), by simp, fun k hk => ?_⟩
    obtain ⟨k, rfl⟩ : ∃ m, k = m + 1 := ⟨k - 1, by omega⟩
    unfold spec_MulMatrix.f impl_MulMatrix.f
    rw [if_neg h1, if_neg h1, decide_eq_true h2]
    simp only [spec_MulMatrix.j0, impl_MulMatrix.j0, if_true]
    constructor <;> first | rfl | trivial
  by_cases h3 : 1 ≤ a ∧ a ≤ 5
  · by_cases h4 : pow2B x.length 32 = true
    · obtain ⟨t, ht, hxt⟩ := pow2B_32 h4
      obtain ⟨s, hs, rfl⟩ : ∃ s : Nat, s ≤ 5 ∧ a = (s : Int) := ⟨a.toNat, by omega, by omega⟩
      have hps : 2 ^ s ≤ 32 := Nat.le_trans (Nat.pow_le_pow_right (by omega) hs) (by decide)
      have hpt : 2 ^ t ≤ 32 := Nat.le_trans (Nat.pow_le_pow_right (by omega) ht) (by decide)
      have start : ∀ k, l.length + x.length + 99000 ≤ k → spec_MulMatrix.f (k + 1 + 1) l s x = (if matOK ((2 ^ s : Nat) : Int) (x.length : Int) l = true then (if fieldsB x = true then ((spec_l10Mul.f k l s x).bind fun t112 => some (t112, (0 : Int))) else some ([], 1)) else some ([], 1))
          ∧ impl_MulMatrix.f (k + 1 + 1) l s x = (if matOK ((2 ^ s : Nat) : Int) (x.length : Int) l = true then (if fieldsB x = true then ((impl_product.f k l s x).bind fun t112 => some (t112, (0 : Int))) else some ([], 1)) else some ([], 1)) := by
        intro k hk
        have e1 := l10List_eq (l := l) (s := s) (t := t) (by omega) (by omega) (k := k) (by omega)
        have e2 := isMatrix_eq hl (r := ((2 ^ s : Nat) : Int)) (c := (x.length : Int)) (Int.natCast_nonneg _) (by omega) (by omega) (by omega) (k := k) (by omega)
        rw [← hxt] at e1
        have e3 := vars_eq (t := t) (by omega) (k := k) (by omega)
        rw [← hxt] at e3
        unfold spec_MulMatrix.f impl_MulMatrix.f
        rw [if_neg h1, if_neg h1, decide_eq_false h2]
        simp only [spec_MulMatrix.j0, impl_MulMatrix.j0, Bool.false_eq_true, if_false]
        rw [spec_l01In_eq, impl_in_eq, decide_eq_true h3]
        simp only [bS, if_true]
        rw [spec_l04Power_eq (by omega) (by omega), impl_isPower_eq (by omega), h4]
        simp only [bS, Bool.not_true, spec_MulMatrix.j1, impl_MulMatrix.j1, Bool.false_eq_true, if_false]
        rw [e3, if_pos (show 0 ≤ (s : Int) by omega), Go.Proofs.Ytegdgjnpfifofaa.PT.shl_small (by omega), e2]
        simp only [bS]
        rw [e1]
        simp only [bS]
        rw [l10Fields_eq hx (by omega), are_fields_eq]
        simp only [bS]
        exact ⟨trivial, trivial⟩
      by_cases h5 : matOK ((2 ^ s : Nat) : Int) (x.length : Int) l = true
      · by_cases h6 : fieldsB x = true
        · have h7 : matB ((2 ^ s : Nat) : Int) (x.length : Int) l = true := by unfold matOK at h5; rw [Bool.and_eq_true] at h5; exact h5.1
          obtain ⟨q, hq, hk3⟩ := product_same (l := l) (by omega) (fieldsB_iff h6) (s := s) (by omega) h7
          refine ⟨(q, 0), by show q.length ≤ 4096; omega, fun k hk => ?_⟩
          obtain ⟨k, rfl⟩ : ∃ m, k = m + 1 + 1 := ⟨k - 2, by omega⟩
          obtain ⟨e1, e2⟩ := start k (by omega)
          obtain ⟨e3, e4⟩ := hk3 k (by omega)
          rw [e1, e2, if_pos h5, if_pos h6, if_pos h5, if_pos h6, e3, e4]; exact ⟨rfl, rfl⟩
        · refine ⟨([], 1), by simp, fun k hk => ?_⟩
          obtain ⟨k, rfl⟩ : ∃ m, k = m + 1 + 1 := ⟨k - 2, by omega⟩
          obtain ⟨e1, e2⟩ := start k (by omega)
          rw [e1, e2, if_pos h5, if_neg h6, if_pos h5, if_neg h6]; exact ⟨rfl, rfl⟩
      · refine ⟨([], 1), by simp, fun k hk => ?_⟩
        obtain ⟨k, rfl⟩ : ∃ m, k = m + 1 + 1 := ⟨k - 2, by omega⟩
        obtain ⟨e1, e2⟩ := start k (by omega)
        rw [e1, e2, if_neg h5, if_neg h5]; exact ⟨rfl, rfl⟩
    · refine ⟨([], 4), by simp, fun k hk => ?_⟩
      obtain ⟨k, rfl⟩ : ∃ m, k = m + 1 + 1 := ⟨k - 2, by omega⟩
      unfold spec_MulMatrix.f impl_MulMatrix.f
      rw [if_neg h1, if_neg h1, decide_eq_false h2]
      simp only [spec_MulMatrix.j0, impl_MulMatrix.j0, Bool.false_eq_true, if_false]
      rw [spec_l01In_eq, impl_in_eq, decide_eq_true h3]
      simp only [bS, if_true]
      rw [spec_l04Power_eq (by omega) (by omega), impl_isPower_eq (by omega), Bool.eq_false_iff.mpr h4]
      simp only [bS, Bool.not_false, spec_MulMatrix.j1, impl_MulMatrix.j1, if_true]
      constructor <;> first | rfl | trivial
  · refine ⟨([], 4), by simp, fun k hk => ?_⟩
    obtain ⟨k, rfl⟩ : ∃ m, k = m + 1 + 1 := ⟨k - 2, by omega⟩
    unfold spec_MulMatrix.f impl_MulMatrix.f
    rw [if_neg h1, if_neg h1, decide_eq_false h2]
    simp only [spec_MulMatrix.j0, impl_MulMatrix.j0, Bool.false_eq_true, if_false]
    rw [spec_l01In_eq, impl_in_eq, decide_eq_false h3]
    simp only [bS, Bool.false_eq_true, if_false, spec_MulMatrix.j1, impl_MulMatrix.j1, if_true]
    constructor <;> first | rfl | trivial
theorem pureFnExactMulMatrix : Pure := by
  intro l a x hl _ hx
  by_cases h0 : (x.length : Int) > 1048576
  · refine ⟨1, ?_⟩
    unfold laws_FnExactMulMatrix.f
    rw [if_pos h0]
  by_cases h : (l.length : Int) ≤ 1048576
  · have hcl := convEntryS_length l
    obtain ⟨r, hr, hsame⟩ := same (convEntryS l) a x (by omega) (by omega)
    refine ⟨(l.length + x.length + 100000) + 1 + 1 + 1, ?_⟩
    unfold laws_FnExactMulMatrix.f
    generalize hK : l.length + x.length + 100000 = K
    have s3 := hsame (K + 1 + 1 + 1) (by omega)
    have s1 := hsame (K + 1) (by omega)
    rw [if_neg h0, szEntryS_fit (by omega) h]
    simp only [bS]
    rw [if_neg (by omega), toEntryS_eq (k := K + 1 + 1 + 1) (by omega) (by omega)]
    simp only [bS]
    rw [toIntS_eq (k := K + 1 + 1 + 1) (by omega) (by omega)]
    simp only [bS]
    rw [s3.1, s3.2]
    simp only [bS]
    rw [eqIntS_refl (k := K + 1 + 1 + 1) (by omega) (by omega)]
    simp only [bS, if_true, bne_self_eq_false, laws_FnExactMulMatrix.j0, Bool.false_eq_true, if_false]
    rw [toEntryS_eq (k := K + 1 + 1) (by omega) (by omega)]
    simp only [bS]
    rw [eqEntryS_refl (k := K + 1 + 1) (by omega) (by omega)]
    simp only [bS, if_true]
    rw [toIntS_eq (k := K + 1 + 1) (by omega) (by omega)]
    simp only [bS]
    rw [eqIntS_refl (k := K + 1 + 1) (by omega) (by omega)]
    simp only [bS, if_true]
    obtain ⟨v, l2, em, hv0, hv1⟩ := markEntryS_ok (convEntryS l) (by omega) (k := K + 1 + 1) (by omega)
    rw [em]
    simp only [bS]
    rw [markIntS_eq (k := K + 1 + 1) hv0 (by omega) (by omega) (by omega)]
    simp only [bS]
    rw [if_neg (by omega), eqIntS_refl (k := K + 1 + 1) (by omega) (by omega)]
    simp only [bS, if_true, bne_self_eq_false, laws_FnExactMulMatrix.j1, Bool.false_eq_true, if_false]
    rw [markIntS_eq (k := K + 1) (by omega) (by omega) (by omega) (by omega)]
    simp only [bS]
    rw [heldIntS_eq (k := K + 1) (by omega) (by omega) (by omega) (by omega)]
    simp only [bS]
    rw [if_neg (by omega), if_true, toEntryS_eq (k := K + 1) (by omega) (by omega)]
    simp only [bS]
    rw [toIntS_eq (k := K + 1) (by omega) (by omega)]
    simp only [bS]
    rw [s1.2]
    simp only [bS]
    rw [eqIntS_refl (k := K + 1) (by omega) (by omega)]
    simp only [bS, if_true, bne_self_eq_false, laws_FnExactMulMatrix.j2, Bool.false_eq_true, if_false]
    rw [heldIntS_eq (k := K) (by omega) (by omega) (by omega) (by omega)]
    simp only [bS]
    rw [if_neg (by omega), if_true]
  · refine ⟨1, ?_⟩
    unfold laws_FnExactMulMatrix.f
    rw [if_neg h0, szEntryS_big (by omega) (by omega) hl.1 (by omega)]
    simp
end Go.Proofs.Ytegdgjnpfifofaa.fnExactMulMatrix
end
