/- Part 9 of the proof of FnExactFailedRow: what functions compute, shown step by step, and what that says (the claim's last text states the law). -/
import Derived.Test.YtekijbcblajjbaaProg
import Derived.Test.YtekijbcblajjbaaVMore
import Derived.Test.YtekijbcblajjbaaVWords
import Derived.Test.YtekijbcblajjbaaVLast
import Derived.Test.YtekijbcblajjbaaVTab
import Derived.Test.YtekijbcblajjbaaVQPut
import Derived.Test.YtekijbcblajjbaaVApart
import Derived.Test.YtekijbcblajjbaaVArr
import Derived.Test.YtekijbcblajjbaaVZeros
import Derived.Test.YtekijbcblajjbaaVFoot
import Derived.Test.YtekijbcblajjbaaVKept
import Derived.Test.YtekijbcblajjbaaVShare
import Derived.Test.YtekijbcblajjbaaVN
import Derived.Test.YtekijbcblajjbaaVRepsOne
import Derived.Test.YtekijbcblajjbaaVNEv
import Derived.Test.YtekijbcblajjbaaRows
import Derived.JoinedOf
import Derived.WalkKit
import Derived.ProofKit
import Derived.Below
import Derived.Deep.Draws
import Derived.Deep.AppendLies
import Derived.Maps.AppendAt
import Derived.OwnWalk
import Derived.Laws.BytesArg
import Derived.Laws.MakeOwn
import Derived.Laws.OwnMore
import Derived.Deep.OwnRows
import Derived.Tactics
import Derived.Lib.ConvBytes
import Derived.Laws.Slices
import Derived.KernelRfl
import Derived.RowKit3
import Derived.Deep.LoopGhost
import Derived.Deep.QuietTactic
import Derived.BigQuiet
import Derived.WideLaws
import Derived.Deep.DeepCutAuto
import Derived.Deep.CutBlock
import Derived.Deep.RegionHeld3
import Derived.Laws.Rows
import Derived.Lib.AppendStr
import Derived.ArgAppend
import Derived.Laws.IdiomCopy
import Derived.OrdersHeld
import Derived.Laws.BitsLemmas
import Derived.RowKit
import Derived.OpenShut
import Derived.ShutString
import Derived.ChangeOld
import Derived.SizedLaws
import Derived.Deep.Slices
import Derived.ChangeArms
import Derived.Test.YtekijbcblajjbaaZFnExactFailedRow8
section
/- Words: their transform, its inverse, and a word folded: both sides walk the same numbers. -/
namespace Go.Proofs.Ytekijbcblajjbaa.PT
open Go.RowKit Go.Proofs.YtekijbcblajjbaaW.PrintWords Go.Proofs.YtekijbcblajjbaaW.PrintLast Go.Proofs.YtekijbcblajjbaaW.PrintMore
set_option linter.unusedVariables false
set_option linter.unusedSimpArgs false
theorem u64w {n : Int} (h0 : 0 ≤ n) (h1 : n ≤ 4611686018427387904) : IntKind.u64.wrap n = n := by
  simp only [IntKind.wrap, IntKind.bits, IntKind.signed]; simp; omega
/-! logarithms and roots -/
/-! a pair folded -/
/-! the transform -/
end Go.Proofs.Ytekijbcblajjbaa.PT
end
section
/- The field's order is a prime: powers, inverses and the greater field's laws. -/
namespace Go.Proofs.Ytekijbcblajjbaa.PT
open Go.RowKit Go.Proofs.YtekijbcblajjbaaW.PrintWords Go.Proofs.YtekijbcblajjbaaW.PrintLast Go.Proofs.YtekijbcblajjbaaW.PrintMore
set_option linter.unusedVariables false
set_option linter.unusedSimpArgs false
end Go.Proofs.Ytekijbcblajjbaa.PT
end
section
/- Matrices times numbers, and matrices at points: both sides walk the same numbers. -/
namespace Go.Proofs.Ytekijbcblajjbaa.PT
open Go.RowKit Go.Proofs.YtekijbcblajjbaaW.PrintWords Go.Proofs.YtekijbcblajjbaaW.PrintLast Go.Proofs.YtekijbcblajjbaaW.PrintMore
set_option linter.unusedVariables false
set_option linter.unusedSimpArgs false
theorem matB_all {r c : Int} : ∀ {l : List S53}, matB r c l = true → ∀ x ∈ l, entB r c x = true
  | [], _, x, h => by cases h
  | [y], h, x, hx => by rw [List.mem_singleton.mp hx]; exact h
  | y :: z :: zs, h, x, hx => by
    rw [matB, Bool.and_eq_true, Bool.and_eq_true] at h
    rcases List.mem_cons.mp hx with rfl | hx
    · exact h.1
    · exact matB_all h.2.2 x hx
theorem entB_iff {r c : Int} {x : S53} (h : entB r c x = true) : (0 ≤ x.f0 ∧ x.f0 < r) ∧ (0 ≤ x.f1 ∧ x.f1 < c) ∧ inF x.f2 := by
  unfold entB at h
  rw [Bool.and_eq_true, Bool.and_eq_true, decide_eq_true_eq, decide_eq_true_eq, decide_eq_true_eq] at h
  unfold inF
  omega
theorem l10List_l0 (l : List S53) (hl : l.length ≤ 200) (s t : Nat) (hs : s ≤ 9) (ht : t ≤ 9) (d : Nat) : ∀ (k i : Nat), i + d = l.length → 2 * d < k →
    spec_l10List.l0 k l s t i = some (matFrom ((2 ^ s : Nat) : Int) ((2 ^ t : Nat) : Int) l i) := by
  have hps : 2 ^ s ≤ 512 := Nat.le_trans (Nat.pow_le_pow_right (by omega) hs) (by decide)
  have hpt : 2 ^ t ≤ 512 := Nat.le_trans (Nat.pow_le_pow_right (by omega) ht) (by decide)
  induction d with
  | zero =>
    intro k i hi hk
    obtain ⟨k, rfl⟩ : ∃ m, k = m + 1 := ⟨k - 1, by omega⟩
    simp only [spec_l10List.l0]
    have e : matFrom ((2 ^ s : Nat) : Int) ((2 ^ t : Nat) : Int) l i = true := by unfold matFrom; rw [List.drop_eq_nil_of_le (by omega), decide_eq_true (show l.length ≤ i by omega)]; simp [matB]
    rw [if_neg (by omega), e]
  | succ d ih =>
    intro k i hi hk
    obtain ⟨k, rfl⟩ : ∃ m, k = m + 1 + 1 := ⟨k - 2, by omega⟩
    have hlt : i < l.length := by omega
    have hr0 : (0 : Int) ≤ ((2 ^ s : Nat) : Int) := Int.natCast_nonneg _
    have hr1 : ((2 ^ s : Nat) : Int) ≤ 512 := Int.ofNat_le.mpr hps
    have hc0 : (0 : Int) ≤ ((2 ^ t : Nat) : Int) := Int.natCast_nonneg _
    have hc1 : ((2 ^ t : Nat) : Int) ≤ 512 := Int.ofNat_le.mpr hpt
    generalize hr : ((2 ^ s : Nat) : Int) = r at *
    generalize hc : ((2 ^ t : Nat) : Int) = c at *
    have es : shl .i64 1 (s : Int) = r := by rw [shl_small (by omega), hr]
    have et : shl .i64 1 (t : Int) = c := by rw [shl_small (by omega), hc]
    simp only [spec_l10List.l0]
    rw [if_pos (show (i : Int) < (l.length : Int) by omega), if_pos (show 0 ≤ (i : Int) by omega), u64w (n := (s : Int)) (by omega) (by omega), u64w (n := (t : Int)) (by omega) (by omega), if_pos (show 0 ≤ (s : Int) by omega), es, et, rdEntryS hlt, spec_l01In_eq, spec_l01In_eq, spec_l01In_eq, matFrom_step r c l i hlt,
      w64 (n := r - 1) (by omega) (by omega), w64 (n := c - 1) (by omega) (by omega)]
    simp only [bS]
    have bad : ∀ x y z, spec_l10List.j1 (k + 1) l s t i true x y z = some false := by intro x y z; simp only [spec_l10List.j1, if_true]
    by_cases h1 : 0 ≤ (l[i]).f0 ∧ (l[i]).f0 ≤ r - 1
    · rw [decide_eq_true h1]
      simp only [if_true]
      rw [if_pos (show 0 ≤ (t : Int) by omega)]
      by_cases h2 : 0 ≤ (l[i]).f1 ∧ (l[i]).f1 ≤ c - 1
      · rw [decide_eq_true h2]
        simp only [if_true]
        by_cases h3 : 1 ≤ (l[i]).f2 ∧ (l[i]).f2 ≤ 2130706432
        · have e : entB r c l[i] = true := by unfold entB; rw [decide_eq_true h1, decide_eq_true h2, decide_eq_true h3]; rfl
          rw [decide_eq_true h3, e]
          simp only [Bool.not_true, Bool.true_and, spec_l10List.j1, Bool.false_eq_true, if_false]
          rw [w64 (n := (i : Int) + 1) (by omega) (by omega), show (i : Int) + 1 = ((i + 1 : Nat) : Int) by omega]
          by_cases h4 : i = 0
          · rw [if_neg (by omega), decide_eq_true h4, Bool.true_or, Bool.true_and]
            exact ih k (i + 1) (by omega) (by omega)
          · have hp : i - 1 < l.length := by omega
            have ei : (i : Int) - 1 = ((i - 1 : Nat) : Int) := by omega
            rw [if_pos (by omega), w64 (n := (i : Int) - 1) (by omega) (by omega), ei, if_pos (by omega), if_pos (by omega), rdEntryS hp, decide_eq_false h4, Bool.false_or, getD_at hp]
            unfold befB
            by_cases h5 : (l[i - 1]).f0 > (l[i]).f0
            · rw [if_pos h5, decide_eq_false (by omega)]; rfl
            · rw [if_neg h5]
              by_cases h6 : (l[i - 1]).f0 = (l[i]).f0
              · rw [if_pos h6]
                by_cases h7 : (l[i - 1]).f1 ≥ (l[i]).f1
                · rw [if_pos h7, decide_eq_false (by omega)]; rfl
                · rw [if_neg h7, decide_eq_true (by omega), Bool.true_and]
                  exact ih k (i + 1) (by omega) (by omega)
              · rw [if_neg h6, decide_eq_true (by omega), Bool.true_and]
                exact ih k (i + 1) (by omega) (by omega)
        · have e : entB r c l[i] = false := by unfold entB; rw [decide_eq_false h3, Bool.and_false]
          rw [decide_eq_false h3, e, Bool.not_false, bad]; rfl
      · have e : entB r c l[i] = false := by unfold entB; rw [decide_eq_false h2, Bool.and_false, Bool.false_and]
        rw [decide_eq_false h2, e]
        simp only [Bool.false_eq_true, if_false]
        rw [bad]; rfl
    · have e : entB r c l[i] = false := by unfold entB; rw [decide_eq_false h1, Bool.false_and, Bool.false_and]
      rw [decide_eq_false h1, e]
      simp only [Bool.false_eq_true, if_false]
      rw [bad]; rfl
theorem l10List_eq {l : List S53} {s t : Nat} (hs : s ≤ 9) (ht : t ≤ 9) {k : Nat} (hk : 500 < k) : spec_l10List.f k l s t = some (matOK ((2 ^ s : Nat) : Int) ((2 ^ t : Nat) : Int) l) := by
  unfold spec_l10List.f matOK
  by_cases h : (l.length : Int) > 200
  · rw [if_pos h, decide_eq_false (by omega), Bool.and_false]
  · have e := l10List_l0 l (by omega) s t hs ht l.length k 0 (by omega) (by omega)
    have e2 : matFrom ((2 ^ s : Nat) : Int) ((2 ^ t : Nat) : Int) l 0 = matB ((2 ^ s : Nat) : Int) ((2 ^ t : Nat) : Int) l := by unfold matFrom; rw [List.drop_zero]; simp
    rw [Int.natCast_zero, e2] at e
    rw [if_neg h, decide_eq_true (by omega), Bool.and_true, e]
def fieldsB (l : List Int) : Bool := l.all fun x => decide (inF x)
theorem are_fields_eq (l : List Int) : impl_are_int_FieldOK.f l = some (fieldsB l) := by
  unfold impl_are_int_FieldOK.f fieldsB
  congr 2; funext x; unfold impl_are_int_FieldOK.p; rw [impl_FieldOK_eq]; rfl
theorem fieldsB_iff {l : List Int} (h : fieldsB l = true) : ∀ x ∈ l, inF x := by
  intro x hx
  unfold fieldsB at h
  rw [List.all_eq_true] at h
  exact of_decide_eq_true (h x hx)
theorem l10Fields_l0 (l : List Int) (hl : l.length ≤ 1048576) (d : Nat) : ∀ (k i : Nat), i + d = l.length → d < k → spec_l10Fields.l0 k l i = some (fieldsB (l.drop i)) := by
  induction d with
  | zero =>
    intro k i hi hk
    obtain ⟨k, rfl⟩ : ∃ m, k = m + 1 := ⟨k - 1, by omega⟩
    simp only [spec_l10Fields.l0]; rw [if_neg (by omega), List.drop_eq_nil_of_le (by omega)]; rfl
  | succ d ih =>
    intro k i hi hk
    obtain ⟨k, rfl⟩ : ∃ m, k = m + 1 := ⟨k - 1, by omega⟩
    have hlt : i < l.length := by omega
    simp only [spec_l10Fields.l0]
    rw [if_pos (show (i : Int) < (l.length : Int) by omega), if_pos (show 0 ≤ (i : Int) by omega), rdI hlt, spec_FieldOK_eq, List.drop_eq_getElem_cons hlt, w64 (by omega) (by omega), show (i : Int) + 1 = ((i + 1 : Nat) : Int) by omega]
    simp only [bS, fieldsB, List.all_cons]
    by_cases h : inF l[i]
    · rw [decide_eq_true h, if_pos rfl, Bool.true_and]; exact ih k (i + 1) (by omega) (by omega)
    · rw [decide_eq_false h]; rfl
theorem l10Fields_eq {l : List Int} (hl : l.length ≤ 1048576) {k : Nat} (hk : l.length < k) : spec_l10Fields.f k l = some (fieldsB l) := by
  have e := l10Fields_l0 l hl l.length k 0 (by omega) hk
  rw [Int.natCast_zero, List.drop_zero] at e
  unfold spec_l10Fields.f; exact e
theorem inF_rd {l : List Int} (h : ∀ x ∈ l, inF x) {i : Int} (h0 : 0 ≤ i) (h1 : i < l.length) : inF (rd l i) := by
  show inF (l.getD i.toNat 0)
  rw [getD_at (show i.toNat < l.length by omega)]
  exact h _ (List.getElem_mem _)
theorem product_l0 (l : List S53) (hl : l.length ≤ 4096) (x : List Int) (hx : ∀ y ∈ x, inF y) (n : Nat) (he : ∀ y ∈ l, entB (n : Int) (x.length : Int) y = true) (d : Nat) : ∀ (i : Nat) (o : List Int), i + d = l.length → (∀ y ∈ o, inF y) → o.length = n →
    ∃ q : List Int, ((∀ y ∈ q, inF y) ∧ q.length = n) ∧ ∀ k, d < k → impl_product.l0 k x o l (l.length : Int) i = some q ∧ spec_l10Mul.l0 k l x o i = some q := by
  induction d with
  | zero =>
    intro i o hi ho hn
    refine ⟨o, ⟨ho, hn⟩, fun k hk => ?_⟩
    obtain ⟨k, rfl⟩ : ∃ m, k = m + 1 := ⟨k - 1, by omega⟩
    simp only [impl_product.l0, spec_l10Mul.l0]
    rw [if_neg (by omega), if_neg (by omega)]; exact ⟨rfl, rfl⟩
  | succ d ih =>
    intro i o hi ho hn
    have hlt : i < l.length := by omega
    obtain ⟨⟨a0, a1⟩, ⟨b0, b1⟩, hv⟩ := entB_iff (he _ (List.getElem_mem hlt))
    have h1 : inF (rd x (l[i]).f1) := inF_rd hx b0 b1
    have h2 : inF (rd o (l[i]).f0) := inF_rd ho a0 (by omega)
    obtain ⟨q, hq, h⟩ := ih (i + 1) (o.set (l[i]).f0.toNat (fadd (rd o (l[i]).f0) (fmul (l[i]).f2 (rd x (l[i]).f1)))) (by omega) (by
      intro y hy
      rcases List.mem_or_eq_of_mem_set hy with h | h
      · exact ho y h
      · rw [h]; exact inF_add _ _) (by rw [List.length_set]; exact hn)
    refine ⟨q, hq, fun k hk => ?_⟩
    obtain ⟨k, rfl⟩ : ∃ m, k = m + 1 := ⟨k - 1, by omega⟩
    simp only [impl_product.l0, spec_l10Mul.l0]
    rw [if_pos (show (i : Int) < (l.length : Int) by omega), if_pos (show 0 ≤ (i : Int) by omega), if_pos (show (i : Int) < (l.length : Int) by omega), rdEntryS hlt, if_pos a0, if_pos (show (l[i]).f0 < (o.length : Int) by omega), if_pos b0, if_pos b1,
      if_pos (show (i : Int) < (l.length : Int) by omega), if_pos (show 0 ≤ (i : Int) by omega), if_pos a0, if_pos (show (l[i]).f0 < (o.length : Int) by omega), if_pos b0, if_pos b1, impl_mul_eq hv h1, spec_l01Mul_eq hv h1]
    simp only [bS]
    rw [impl_add_eq h2 (inF_mul _ _), spec_l01Add_eq h2 (inF_mul _ _)]
    simp only [bS]
    rw [w64 (by omega) (by omega), show (i : Int) + 1 = ((i + 1 : Nat) : Int) by omega]
    exact h k (by omega)
theorem product_same {l : List S53} (hl : l.length ≤ 4096) {x : List Int} (hx : ∀ y ∈ x, inF y) {s : Nat} (hs : s ≤ 9) (he : matB ((2 ^ s : Nat) : Int) (x.length : Int) l = true) :
    ∃ q : List Int, ((∀ y ∈ q, inF y) ∧ q.length = 2 ^ s) ∧ ∀ k, 5000 < k → impl_product.f k l s x = some q ∧ spec_l10Mul.f k l s x = some q := by
  have hps : 2 ^ s ≤ 512 := Nat.le_trans (Nat.pow_le_pow_right (by omega) hs) (by decide)
  obtain ⟨q, hq, h⟩ := product_l0 l hl x hx (2 ^ s) (matB_all he) l.length 0 (List.replicate (2 ^ s) 0) (by omega) (by intro y hy; rw [(List.mem_replicate.mp hy).2]; exact inF_0) (by simp)
  refine ⟨q, hq, fun k hk => ?_⟩
  have e := h k (by omega)
  rw [Int.natCast_zero] at e
  unfold impl_product.f spec_l10Mul.f
  rw [u64w (n := (s : Int)) (by omega) (by omega), if_pos (show 0 ≤ (s : Int) by omega), if_pos (show 0 ≤ (s : Int) by omega), shl_small (by omega), if_pos (by omega), if_pos (by omega), if_pos (by omega), if_pos (by omega), Int.toNat_natCast]
  exact e
/-! at points -/
end Go.Proofs.Ytekijbcblajjbaa.PT
end
section
/- Systems: both sides ask the same of a system and of numbers, and come to the same failed row. -/
namespace Go.Proofs.Ytekijbcblajjbaa.PT
open Go.RowKit Go.Proofs.YtekijbcblajjbaaW.PrintWords Go.Proofs.YtekijbcblajjbaaW.PrintLast Go.Proofs.YtekijbcblajjbaaW.PrintMore
set_option linter.unusedVariables false
set_option linter.unusedSimpArgs false
theorem szSystem_fit {a b c : Int} {x y z : List S105} (h : x.length + y.length + z.length ≤ 1048576) : laws_szSystem.f a b c x y z 1048576 = some ((1048576 : Int) - x.length - y.length - z.length) := by
  unfold laws_szSystem.f
  rw [szEntryS_fit (by omega) (by omega)]
  simp only [bS]
  rw [if_neg (by omega), szEntryS_fit (by omega) (by omega)]
  simp only [bS]
  rw [if_neg (by omega), szEntryS_fit (by omega) (by omega)]
  simp only [bS]
  rw [if_neg (by omega)]
theorem szSystem_big {a b c : Int} {x y z : List S105} (hx : x.length ≤ 9223372036854775807) (hy : y.length ≤ 9223372036854775807) (hz : z.length ≤ 9223372036854775807) (h : ¬ x.length + y.length + z.length ≤ 1048576) : laws_szSystem.f a b c x y z 1048576 = some (-1) := by
  unfold laws_szSystem.f
  by_cases h1 : x.length ≤ 1048576
  · rw [szEntryS_fit (by omega) (by omega)]
    simp only [bS]
    rw [if_neg (by omega)]
    by_cases h2 : x.length + y.length ≤ 1048576
    · rw [szEntryS_fit (by omega) (by omega)]
      simp only [bS]
      rw [if_neg (by omega), szEntryS_big (by omega) (by omega) hz (by omega)]
      rfl
    · rw [szEntryS_big (by omega) (by omega) hy (by omega)]
      rfl
  · rw [szEntryS_big (by omega) (by omega) hx (by omega)]
    rfl
theorem toSystem_eq {a b c : Int} {x y z : List S105} (h : x.length + y.length + z.length ≤ 1048576) {k : Nat} (hk : 1048576 < k) : laws_toSystem.f k a b c x y z = some (a, b, c, convEntryS x, convEntryS y, convEntryS z) := by
  unfold laws_toSystem.f
  rw [toEntryS_eq (by omega) (by omega), toEntryS_eq (by omega) (by omega), toEntryS_eq (by omega) (by omega)]
  rfl
theorem eqSystem_refl {a b c : Int} {x y z : List S53} (hx : x.length ≤ 1048576) (hy : y.length ≤ 1048576) (hz : z.length ≤ 1048576) {k : Nat} (hk : 1048576 < k) : laws_eqSystem.f k a b c x y z a b c x y z = some true := by
  unfold laws_eqSystem.f
  rw [if_pos rfl, if_pos rfl, if_pos rfl, eqEntryS_refl hx (by omega), eqEntryS_refl hy (by omega), eqEntryS_refl hz (by omega)]
  rfl
def mat3 (r c : Int) (x y z : List S53) : Bool := matOK r c x && (matOK r c y && matOK r c z)
/-- A system is right. -/
def sysB (a b c : Int) (x y z : List S53) : Bool := decide (1 ≤ a ∧ a ≤ 5) && (decide (2 ≤ b ∧ b ≤ 5) && (decide (0 ≤ c ∧ c ≤ ((2 ^ (b.toNat - 1) : Nat) : Int) - 1) && mat3 ((2 ^ a.toNat : Nat) : Int) ((2 ^ b.toNat : Nat) : Int) x y z))
theorem half_eq {b : Int} (h1 : 1 ≤ b) (h2 : b ≤ 5) (a c : Int) (x y z : List S53) : impl_System_half.f a b c x y z = some ((2 ^ (b.toNat - 1) : Nat) : Int) := by
  unfold impl_System_half.f
  rw [w64 (by omega) (by omega), if_pos (by omega), show b - 1 = ((b.toNat - 1 : Nat) : Int) by omega, Go.Proofs.Ytekijbcblajjbaa.PT.shl_small (by omega)]
theorem two_le (t : Nat) (h : t ≤ 5) : 2 ^ t ≤ 32 := Nat.le_trans (Nat.pow_le_pow_right (by omega) h) (by decide)
theorem mats_impl {s t : Nat} (hs : s ≤ 5) (ht : t ≤ 5) {x y z : List S53} (hx : x.length ≤ 1048576) (hy : y.length ≤ 1048576) (hz : z.length ≤ 1048576) {k : Nat} (hk : 1050000 < k) (a b c : Int) (ha : a = (s : Int)) (hb : b = (t : Int)) :
    impl_SystemOK.j0 (k + 1) false a b c x y z = some (mat3 ((2 ^ s : Nat) : Int) ((2 ^ t : Nat) : Int) x y z) := by
  subst ha hb
  have h1 := two_le s hs
  have h2 := two_le t ht
  simp only [impl_SystemOK.j0, Bool.false_eq_true, if_false]
  rw [if_pos (show 0 ≤ (s : Int) by omega), if_pos (show 0 ≤ (t : Int) by omega), Go.Proofs.Ytekijbcblajjbaa.PT.shl_small (by omega), Go.Proofs.Ytekijbcblajjbaa.PT.shl_small (by omega),
    isMatrix_eq hx (Int.natCast_nonneg _) (by omega) (Int.natCast_nonneg _) (by omega) (by omega), isMatrix_eq hy (Int.natCast_nonneg _) (by omega) (Int.natCast_nonneg _) (by omega) (by omega), isMatrix_eq hz (Int.natCast_nonneg _) (by omega) (Int.natCast_nonneg _) (by omega) (by omega)]
  simp only [bS]
  unfold mat3
  cases matOK ((2 ^ s : Nat) : Int) ((2 ^ t : Nat) : Int) x <;> cases matOK ((2 ^ s : Nat) : Int) ((2 ^ t : Nat) : Int) y <;> cases matOK ((2 ^ s : Nat) : Int) ((2 ^ t : Nat) : Int) z <;> rfl
theorem SystemOK_eq {a b c : Int} {x y z : List S53} (hx : x.length ≤ 1048576) (hy : y.length ≤ 1048576) (hz : z.length ≤ 1048576) {k : Nat} (hk : 1050002 < k) :
    impl_SystemOK.f k a b c x y z = some (sysB a b c x y z) ∧ spec_SystemOK.f k a b c x y z = some (sysB a b c x y z) := by
  obtain ⟨k, rfl⟩ : ∃ m, k = m + 1 := ⟨k - 1, by omega⟩
  unfold impl_SystemOK.f spec_SystemOK.f sysB
  rw [impl_in_eq, spec_l01In_eq]
  simp only [bS]
  by_cases ha : 1 ≤ a ∧ a ≤ 5
  · rw [decide_eq_true ha, if_pos rfl, if_pos rfl, impl_in_eq, spec_l01In_eq]
    simp only [bS]
    by_cases hb : 2 ≤ b ∧ b ≤ 5
    · have e1 : IntKind.u64.wrap (b - 1) = b - 1 := by
        simp only [IntKind.wrap, IntKind.bits, IntKind.signed]; simp; omega
      have e2 : shl .i64 1 (b - 1) = ((2 ^ (b.toNat - 1) : Nat) : Int) := by
        rw [show b - 1 = ((b.toNat - 1 : Nat) : Int) by omega, Go.Proofs.Ytekijbcblajjbaa.PT.shl_small (by omega)]
      have h3 := two_le (b.toNat - 1) (by omega)
      have h4 := Nat.two_pow_pos (b.toNat - 1)
      rw [decide_eq_true hb, if_pos rfl, if_pos rfl, half_eq (by omega) (by omega), w64 (n := b - 1) (by omega) (by omega), e1, e2, if_pos (show 0 ≤ b - 1 by omega)]
      simp only [bS]
      rw [w64 (n := ((2 ^ (b.toNat - 1) : Nat) : Int) - 1) (by omega) (by omega), impl_in_eq, spec_l01In_eq]
      simp only [bS]
      by_cases hc : 0 ≤ c ∧ c ≤ ((2 ^ (b.toNat - 1) : Nat) : Int) - 1
      · have l3 := l10List_eq (l := x) (s := a.toNat) (t := b.toNat) (by omega) (by omega) (k := k + 1) (by omega)
        have l4 := l10List_eq (l := y) (s := a.toNat) (t := b.toNat) (by omega) (by omega) (k := k + 1) (by omega)
        have l5 := l10List_eq (l := z) (s := a.toNat) (t := b.toNat) (by omega) (by omega) (k := k + 1) (by omega)
        rw [show ((a.toNat : Nat) : Int) = a by omega, show ((b.toNat : Nat) : Int) = b by omega] at l3 l4 l5
        rw [decide_eq_true hc, if_pos rfl, Bool.not_true, mats_impl (s := a.toNat) (t := b.toNat) (by omega) (by omega) hx hy hz (by omega) a b c (by omega) (by omega), l3, l4, l5]
        simp only [bS, Bool.true_and]
        refine ⟨trivial, ?_⟩
        unfold mat3
        cases matOK ((2 ^ a.toNat : Nat) : Int) ((2 ^ b.toNat : Nat) : Int) x <;> cases matOK ((2 ^ a.toNat : Nat) : Int) ((2 ^ b.toNat : Nat) : Int) y <;> cases matOK ((2 ^ a.toNat : Nat) : Int) ((2 ^ b.toNat : Nat) : Int) z <;> rfl
      · rw [decide_eq_false hc]
        simp only [Bool.not_false, impl_SystemOK.j0, if_true, Bool.false_and, Bool.true_and, Bool.false_eq_true, if_false]
        exact ⟨trivial, trivial⟩
    · rw [decide_eq_false hb]
      simp only [impl_SystemOK.j0, if_true, Bool.false_and, Bool.true_and, Bool.false_eq_true, if_false]
      exact ⟨trivial, trivial⟩
  · rw [decide_eq_false ha]
    simp only [impl_SystemOK.j0, if_true, Bool.false_and, Bool.false_eq_true, if_false]
    exact ⟨trivial, trivial⟩
theorem sysB_iff {a b c : Int} {x y z : List S53} (h : sysB a b c x y z = true) : (1 ≤ a ∧ a ≤ 5) ∧ (2 ≤ b ∧ b ≤ 5) ∧ (0 ≤ c ∧ c ≤ ((2 ^ (b.toNat - 1) : Nat) : Int) - 1) ∧ mat3 ((2 ^ a.toNat : Nat) : Int) ((2 ^ b.toNat : Nat) : Int) x y z = true := by
  unfold sysB at h
  simp only [Bool.and_eq_true, decide_eq_true_eq] at h
  exact h
/-- The code of a system and numbers. -/
def askC (a b c : Int) (x y z : List S53) (n : List Int) : Int := if (n.length : Int) > 4096 then 2 else if (sysB a b c x y z && fieldsB n) = true then (if (n.length : Int) = ((2 ^ b.toNat : Nat) : Int) then 0 else 8) else 1
theorem ask_eq {a b c : Int} {x y z : List S53} {n : List Int} (hx : x.length ≤ 1048576) (hy : y.length ≤ 1048576) (hz : z.length ≤ 1048576) (hn : n.length ≤ 1048576) {k : Nat} (hk : 1050003 < k) :
    impl_numbersCode.f k a b c x y z n = some (askC a b c x y z n) ∧ spec_l10Ask.f k a b c x y z n = some (askC a b c x y z n) := by
  obtain ⟨k, rfl⟩ : ∃ m, k = m + 1 := ⟨k - 1, by omega⟩
  obtain ⟨e1, e2⟩ := SystemOK_eq (a := a) (b := b) (c := c) hx hy hz (k := k + 1) (by omega)
  unfold impl_numbersCode.f spec_l10Ask.f askC
  by_cases h1 : (n.length : Int) > 4096
  · rw [if_pos h1, if_pos h1, if_pos h1]; exact ⟨rfl, rfl⟩
  rw [if_neg h1, if_neg h1, if_neg h1, e1, e2]
  simp only [bS]
  cases hs : sysB a b c x y z
  · simp only [Bool.false_eq_true, if_false, impl_numbersCode.j0, spec_l10Ask.j0, if_true, Bool.false_and]
    exact ⟨trivial, trivial⟩
  · obtain ⟨ha, hb, _⟩ := sysB_iff hs
    rw [if_pos rfl, if_pos rfl, are_fields_eq, l10Fields_eq hn (by omega)]
    simp only [bS, Bool.true_and]
    cases fieldsB n
    · simp only [Bool.not_false, Bool.false_eq_true, if_false, impl_numbersCode.j0, spec_l10Ask.j0, if_true]
      exact ⟨trivial, trivial⟩
    · have e3 : IntKind.u64.wrap b = b := by
        simp only [IntKind.wrap, IntKind.bits, IntKind.signed]; simp; omega
      have e4 : shl .i64 1 b = ((2 ^ b.toNat : Nat) : Int) := by
        rw [show b = ((b.toNat : Nat) : Int) by omega, Go.Proofs.Ytekijbcblajjbaa.PT.shl_small (by omega)]; rfl
      simp only [Bool.not_true, Bool.false_eq_true, if_false, impl_numbersCode.j0, spec_l10Ask.j0, if_true]
      rw [e3, e4, if_pos (show 0 ≤ b by omega)]
      by_cases h2 : (n.length : Int) = ((2 ^ b.toNat : Nat) : Int)
      · rw [if_pos h2, if_pos h2]; exact ⟨rfl, rfl⟩
      · rw [if_neg h2, if_neg h2]; exact ⟨rfl, rfl⟩
theorem askC_zero {a b c : Int} {x y z : List S53} {n : List Int} (h : askC a b c x y z n = 0) : sysB a b c x y z = true ∧ fieldsB n = true ∧ n.length = 2 ^ b.toNat := by
  unfold askC at h
  by_cases h1 : (n.length : Int) > 4096
  · rw [if_pos h1] at h; omega
  rw [if_neg h1] at h
  by_cases h2 : (sysB a b c x y z && fieldsB n) = true
  · rw [if_pos h2] at h
    rw [Bool.and_eq_true] at h2
    by_cases h3 : (n.length : Int) = ((2 ^ b.toNat : Nat) : Int)
    · exact ⟨h2.1, h2.2, by omega⟩
    · rw [if_neg h3] at h; omega
  · rw [if_neg h2] at h; omega
theorem failed_l0 (u v w : List Int) (hu : ∀ y ∈ u, inF y) (hv : ∀ y ∈ v, inF y) (h1 : u.length = v.length) (h2 : u.length = w.length) (hl : u.length ≤ 4096) (d : Nat) : ∀ i : Nat, i + d = u.length →
    ∃ q : Int, (-1 ≤ q ∧ q ≤ u.length) ∧ ∀ k, d < k → impl_System_failed.l0 k u v w (u.length : Int) i = some q ∧ spec_l10Failed.l0 k u v w i = some q := by
  induction d with
  | zero =>
    intro i hi
    refine ⟨-1, by omega, fun k hk => ?_⟩
    obtain ⟨k, rfl⟩ : ∃ m, k = m + 1 := ⟨k - 1, by omega⟩
    simp only [impl_System_failed.l0, spec_l10Failed.l0]
    rw [if_neg (by omega), if_neg (by omega)]; exact ⟨rfl, rfl⟩
  | succ d ih =>
    intro i hi
    obtain ⟨q, hq, hk2⟩ := ih (i + 1) (by omega)
    have g1 := inF_rd hu (i := (i : Int)) (by omega) (by omega)
    have g2 := inF_rd hv (i := (i : Int)) (by omega) (by omega)
    by_cases h : fmul (rd u i) (rd v i) = rd w i
    · refine ⟨q, hq, fun k hk => ?_⟩
      obtain ⟨k, rfl⟩ : ∃ m, k = m + 1 := ⟨k - 1, by omega⟩
      simp only [impl_System_failed.l0, spec_l10Failed.l0]
      rw [if_pos (by omega), if_pos (by omega), if_pos (by omega), if_pos (by omega), impl_mul_eq g1 g2, spec_l01Mul_eq g1 g2]
      simp only [bS]
      rw [if_pos (by omega), if_pos h, if_pos (by omega), if_pos (by omega), if_pos h, if_pos (by omega), if_pos (by omega), w64 (by omega) (by omega), show (i : Int) + 1 = ((i + 1 : Nat) : Int) by omega]
      exact hk2 k (by omega)
    · refine ⟨i, by omega, fun k hk => ?_⟩
      obtain ⟨k, rfl⟩ : ∃ m, k = m + 1 := ⟨k - 1, by omega⟩
      simp only [impl_System_failed.l0, spec_l10Failed.l0]
      rw [if_pos (by omega), if_pos (by omega), if_pos (by omega), if_pos (by omega), impl_mul_eq g1 g2, spec_l01Mul_eq g1 g2]
      simp only [bS]
      rw [if_pos (by omega), if_neg h, if_pos (by omega), if_pos (by omega), if_neg h, if_pos (by omega), if_pos (by omega)]
      exact ⟨rfl, rfl⟩
theorem mat3_iff {r c : Int} {x y z : List S53} (h : mat3 r c x y z = true) : (matB r c x = true ∧ x.length ≤ 200) ∧ (matB r c y = true ∧ y.length ≤ 200) ∧ (matB r c z = true ∧ z.length ≤ 200) := by
  unfold mat3 matOK at h
  simp only [Bool.and_eq_true, decide_eq_true_eq] at h
  exact h
theorem failed_same {a b c : Int} {x y z : List S53} {n : List Int} (h : sysB a b c x y z = true) (hf : fieldsB n = true) (hn : n.length = 2 ^ b.toNat) :
    ∃ q : Int, -1 ≤ q ∧ ∀ k, 6000 < k → impl_System_failed.f k a b c x y z n = some q ∧ spec_l10Failed.f k a b c x y z n = some q := by
  obtain ⟨ha, hb, _, hm⟩ := sysB_iff h
  obtain ⟨⟨m3, l3⟩, ⟨m4, l4⟩, ⟨m5, l5⟩⟩ := mat3_iff hm
  rw [← hn] at m3 m4 m5
  have hps := two_le a.toNat (by omega)
  obtain ⟨u, ⟨hu, hul⟩, ku⟩ := product_same (l := x) (by omega) (fieldsB_iff hf) (s := a.toNat) (by omega) m3
  obtain ⟨v, ⟨hv, hvl⟩, kv⟩ := product_same (l := y) (by omega) (fieldsB_iff hf) (s := a.toNat) (by omega) m4
  obtain ⟨w, ⟨hw, hwl⟩, kw⟩ := product_same (l := z) (by omega) (fieldsB_iff hf) (s := a.toNat) (by omega) m5
  rw [show ((a.toNat : Nat) : Int) = a by omega] at ku kv kw
  obtain ⟨q, hq, hk2⟩ := failed_l0 u v w hu hv (by omega) (by omega) (by omega) u.length 0 (by omega)
  refine ⟨q, hq.1, fun k hk => ?_⟩
  obtain ⟨e1, e2⟩ := hk2 k (by omega)
  unfold impl_System_failed.f spec_l10Failed.f
  rw [(ku k (by omega)).1, (ku k (by omega)).2, (kv k (by omega)).1, (kv k (by omega)).2, (kw k (by omega)).1, (kw k (by omega)).2]
  simp only [bS]
  rw [Int.natCast_zero] at e1 e2
  exact ⟨e1, e2⟩
end Go.Proofs.Ytekijbcblajjbaa.PT
end
section
/- The first row that numbers do not satisfy, alike on both sides; the system and the numbers stay as they were. -/
namespace Go.Proofs.Ytekijbcblajjbaa.fnExactFailedRow
open Go.Proofs.Ytekijbcblajjbaa.PT Go.RowKit Go.Proofs.YtekijbcblajjbaaO
set_option linter.unusedSimpArgs false
theorem same (a b c : Int) (x y z : List S53) (n : List Int) (hx : x.length ≤ 1048576) (hy : y.length ≤ 1048576) (hz : z.length ≤ 1048576) (hn : n.length ≤ 1048576) :
    ∃ r : Int × Int, ∀ k, 1060000 < k → impl_FailedRow.f k a b c x y z n = some r ∧ spec_FailedRow.f k a b c x y z n = some r := by
  by_cases h0 : askC a b c x y z n = 0
  · obtain ⟨g1, g2, g3⟩ := askC_zero h0
    obtain ⟨q, hq, hk2⟩ := failed_same g1 g2 g3
    have h1 : ¬ (n.length : Int) > 4096 := by
      intro h1; unfold askC at h0; rw [if_pos h1] at h0; omega
    refine ⟨(if q < 0 then (0, 5) else (q, 0)), fun k hk => ?_⟩
    obtain ⟨e1, e2⟩ := ask_eq (a := a) (b := b) (c := c) hx hy hz hn (k := k) (by omega)
    obtain ⟨f1, f2⟩ := hk2 k (by omega)
    unfold impl_FailedRow.f spec_FailedRow.f
    rw [if_neg h1, e1, e2, h0]
    simp only [bS, if_true]
    rw [f1, f2]
    simp only [bS]
    by_cases h : q < 0
    · rw [if_pos h, if_pos h]; exact ⟨rfl, rfl⟩
    · rw [if_neg h, if_neg h]; exact ⟨rfl, rfl⟩
  · by_cases h1 : (n.length : Int) > 4096
    · have h2 : askC a b c x y z n = 2 := by unfold askC; rw [if_pos h1]
      refine ⟨(0, 2), fun k hk => ?_⟩
      obtain ⟨e1, e2⟩ := ask_eq (a := a) (b := b) (c := c) hx hy hz hn (k := k) (by omega)
      unfold impl_FailedRow.f spec_FailedRow.f
      rw [if_pos h1, e1, h2]
      exact ⟨rfl, rfl⟩
    · refine ⟨(0, askC a b c x y z n), fun k hk => ?_⟩
      obtain ⟨e1, e2⟩ := ask_eq (a := a) (b := b) (c := c) hx hy hz hn (k := k) (by omega)
      unfold impl_FailedRow.f spec_FailedRow.f
      rw [if_neg h1, e1, e2]
      simp only [bS]
      rw [if_neg h0, if_neg h0]
      exact ⟨rfl, rfl⟩
theorem pureFnExactFailedRow : Pure := by
  intro x n hx hn
  have hx3 : x.f3.length ≤ 9223372036854775807 := hx.2.2.2.1.1
  have hx4 : x.f4.length ≤ 9223372036854775807 := hx.2.2.2.2.1.1
  have hx5 : x.f5.length ≤ 9223372036854775807 := hx.2.2.2.2.2.1
  by_cases h0 : (n.length : Int) > 1048576
  · refine ⟨1, ?_⟩
    unfold laws_FnExactFailedRow.f
    rw [if_pos h0]
  by_cases h : x.f3.length + x.f4.length + x.f5.length ≤ 1048576
  · have h3 := convEntryS_length x.f3
    have h4 := convEntryS_length x.f4
    have h5 := convEntryS_length x.f5
    refine ⟨2000000 + 1, ?_⟩
    generalize hK : 2000000 = K
    obtain ⟨r, hr⟩ := same x.f0 x.f1 x.f2 (convEntryS x.f3) (convEntryS x.f4) (convEntryS x.f5) n (by omega) (by omega) (by omega) (by omega)
    obtain ⟨e1, e2⟩ := hr (K + 1) (by omega)
    unfold laws_FnExactFailedRow.f
    rw [if_neg h0, szSystem_fit h]
    simp only [bS]
    rw [if_neg (by omega), toSystem_eq h (by omega)]
    simp only [bS]
    rw [toIntS_eq (by omega) (by omega)]
    simp only [bS]
    rw [e2, e1]
    simp only [bS, bne_self_eq_false, Bool.false_eq_true, if_false, if_true, laws_FnExactFailedRow.j0]
    rw [toSystem_eq h (by omega)]
    simp only [bS]
    rw [eqSystem_refl (by omega) (by omega) (by omega) (by omega)]
    simp only [bS, if_true]
    rw [toIntS_eq (by omega) (by omega)]
    simp only [bS]
    rw [eqIntS_refl (by omega) (by omega)]
    simp only [bS, if_true]
  · refine ⟨1, ?_⟩
    unfold laws_FnExactFailedRow.f
    rw [if_neg h0, szSystem_big hx3 hx4 hx5 h]
    simp
end Go.Proofs.Ytekijbcblajjbaa.fnExactFailedRow
end
