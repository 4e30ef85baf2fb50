/- Part 8 of the proof of FnCoefs: what functions compute, shown step by step, and what that says (the claim's last text states the law). -/
import Derived.Test.YtlfnfalckfggkaaProg
import Derived.Test.YtlfnfalckfggkaaVMore
import Derived.Test.YtlfnfalckfggkaaVWords
import Derived.Test.YtlfnfalckfggkaaVLast
import Derived.Test.YtlfnfalckfggkaaVTab
import Derived.Test.YtlfnfalckfggkaaVQPut
import Derived.Test.YtlfnfalckfggkaaVApart
import Derived.Test.YtlfnfalckfggkaaVArr
import Derived.Test.YtlfnfalckfggkaaVZeros
import Derived.Test.YtlfnfalckfggkaaVFoot
import Derived.Test.YtlfnfalckfggkaaVKept
import Derived.Test.YtlfnfalckfggkaaVShare
import Derived.Test.YtlfnfalckfggkaaVN
import Derived.Test.YtlfnfalckfggkaaVEqStruct
import Derived.Test.YtlfnfalckfggkaaVRepsOne
import Derived.Test.YtlfnfalckfggkaaVGuard
import Derived.Test.YtlfnfalckfggkaaVNEv
import Derived.Test.YtlfnfalckfggkaaRows
import Derived.JoinedOf
import Derived.WalkKit
import Derived.ProofKit
import Derived.Below
import Derived.Deep.Draws
import Derived.Deep.AppendLies
import Derived.Maps.AppendAt
import Derived.OwnWalk
import Derived.Laws.BytesArg
import Derived.Laws.MakeOwn
import Derived.Laws.OwnMore
import Derived.Deep.OwnRows
import Derived.Tactics
import Derived.Lib.ConvBytes
import Derived.Laws.Slices
import Derived.KernelRfl
import Derived.RowKit3
import Derived.Deep.LoopGhost
import Derived.Deep.QuietTactic
import Derived.BigQuiet
import Derived.WideLaws
import Derived.Deep.DeepCutAuto
import Derived.Deep.CutBlock
import Derived.Deep.RegionHeld3
import Derived.Laws.Rows
import Derived.Lib.AppendStr
import Derived.ArgAppend
import Derived.Laws.IdiomCopy
import Derived.OrdersHeld
import Derived.Laws.BitsLemmas
import Derived.RowKit
import Derived.StillTailTactics
import Derived.OpenShut
import Derived.ShutString
import Derived.ChangeOld
import Derived.SizedLaws
import Derived.Deep.Slices
import Derived.ChangeArms
import Derived.Test.YtlfnfalckfggkaaZFnCoefs7
section
/- Tables turned in place, folded, and read at a point: both sides walk the same numbers. -/
namespace Go.Proofs.Ytlfnfalckfggkaa.PT
open Go.RowKit Go.Proofs.YtlfnfalckfggkaaW.PrintWords Go.Proofs.YtlfnfalckfggkaaW.PrintLast Go.Proofs.YtlfnfalckfggkaaW.PrintMore
set_option linter.unusedVariables false
set_option linter.unusedSimpArgs false
theorem spec_TableOK_eq {l : List E} (hl : l.length ≤ 1048576) {k : Nat} (hk : l.length + 20 < k) : spec_TableOK.f k l = some (pow2B l.length 64 && okLB l) := by
  unfold spec_TableOK.f
  by_cases h2 : (l.length : Int) > 4096
  · rw [if_pos h2]; congr 1; symm
    have : pow2B (l.length : Int) 64 = false := by unfold pow2B; rw [decide_eq_false (by omega)]; rfl
    rw [this]; rfl
  · rw [if_neg h2, spec_l06Table_eq (by omega), spec_l02List_eq (by omega) (by omega)]
    cases pow2B (l.length : Int) 64 <;> simp
theorem impl_TableOK_eq (l : List E) : impl_TableOK.f l = some (pow2B l.length 64 && okLB l) := by
  unfold impl_TableOK.f
  rw [impl_isPower_eq (by omega), impl_are_eq]
  cases pow2B (l.length : Int) 64 <;> simp
/-! a table turned in place -/
def isBit (b : Int) : Prop := b = 1 ∨ b = 2 ∨ b = 4 ∨ b = 8 ∨ b = 16 ∨ b = 32
theorem bit_facts0 : ∀ a : Fin 64, ∀ b ∈ [1, 2, 4, 8, 16, 32], Go.bits .and .i64 (a.val : Int) b = 0 ∨ (Go.bits .xor .i64 (a.val : Int) b = (a.val : Int) - b ∧ 0 ≤ (a.val : Int) - b) := by decide +kernel
theorem bit_facts {a b : Int} (h0 : 0 ≤ a) (h1 : a < 64) (hb : isBit b) : Go.bits .and .i64 a b = 0 ∨ (Go.bits .xor .i64 a b = a - b ∧ 0 ≤ a - b) := by
  have := bit_facts0 ⟨a.toNat, by omega⟩ b (by unfold isBit at hb; simp; omega)
  simp only [Int.toNat_of_nonneg h0] at this
  exact this
theorem turnminus_same (n : Nat) (hn : n ≤ 64) : ∀ k : Nat,
    (∀ (x : List E) (b : Int), okL x → x.length = n → (isBit b ∨ b = 64) → impl_turned_minus.l0 k x b = spec_l06Coefs.l0 k false x b) ∧
    (∀ (x : List E) (b i : Int), okL x → x.length = n → isBit b → 0 ≤ i → impl_turned_minus.l1 k x b (n : Int) i = spec_l06Coefs.l1 k false x b i) := by
  intro k
  induction k with
  | zero => exact ⟨fun _ _ _ _ _ => rfl, fun _ _ _ _ _ _ _ => rfl⟩
  | succ k ih =>
    refine ⟨fun x b hx hl hb => ?_, fun x b i hx hl hb hi => ?_⟩
    · simp only [impl_turned_minus.l0, spec_l06Coefs.l0]
      by_cases h : b < (x.length : Int)
      · rw [if_pos h, if_pos h, hl]
        refine ih.2 x b 0 hx hl ?_ (by omega)
        rcases hb with hb | hb
        · exact hb
        · omega
      · rw [if_neg h, if_neg h]
    · simp only [impl_turned_minus.l1, spec_l06Coefs.l1]
      by_cases h : i < (n : Int)
      · have hx' : i < (x.length : Int) := by omega
        rw [if_pos h, w64 (n := i + 1) (by omega) (by omega)]
        rcases bit_facts hi (by omega) hb with e | ⟨e1, e2⟩
        · rw [if_pos e, if_pos hx', if_pos e]; exact ih.2 x b (i + 1) hx hl hb (by omega)
        · by_cases e : Go.bits .and .i64 i b = 0
          · rw [if_pos e, if_pos hx', if_pos e]; exact ih.2 x b (i + 1) hx hl hb (by omega)
          · have hb1 : 1 ≤ b := by unfold isBit at hb; omega
            have hb2 : b ≤ 32 := by unfold isBit at hb; omega
            have h1 : okE (rd_T42 x i) := okL_rd hx (by omega) (by omega)
            have h2 : okE (rd_T42 x (i - b)) := okL_rd hx (by omega) (by omega)
            rw [if_neg e, if_pos hi, if_pos hx', if_pos hx', if_neg e, e1, w64 (n := i - b) (by omega) (by omega)]
            simp only [if_true, if_false, Bool.false_eq_true]
            rw [if_pos (by omega), if_pos (by omega), if_pos (by omega), if_pos (by omega), if_pos (by omega)]
            rw [impl_minus_eq h1 h2, spec_l02Sub_eq h1 h2]
            simp only [bS]
            exact ih.2 _ b (i + 1) (okL_set hx (ok_sub _ _)) (by rw [List.length_set]; exact hl) hb (by omega)
      · rw [if_neg h, if_neg (by omega)]
        refine ih.1 x _ hx hl ?_
        unfold isBit at *
        rw [w64 (by omega) (by omega)]
        omega
/-! a table folded -/
/-! a table at a point -/
theorem shl_small0 : ∀ n : Fin 10, shl .i64 1 (n.val : Int) = ((2 ^ n.val : Nat) : Int) := by decide +kernel
theorem shl_small {n : Nat} (h : n < 10) : shl .i64 1 (n : Int) = ((2 ^ n : Nat) : Int) := shl_small0 ⟨n, h⟩
end Go.Proofs.Ytlfnfalckfggkaa.PT
end
section
/- A table turned is a table turned half by half; turned forth and back it is itself. -/
namespace Go.Proofs.Ytlfnfalckfggkaa.PT
open Go.RowKit Go.Proofs.YtlfnfalckfggkaaW.PrintWords Go.Proofs.YtlfnfalckfggkaaW.PrintLast Go.Proofs.YtlfnfalckfggkaaW.PrintMore
set_option linter.unusedVariables false
set_option linter.unusedSimpArgs false
def stepF (f : E → E → E) (b : Nat) (x : List E) : List E := (List.range x.length).map fun i => if i / b % 2 = 1 then f (x.getD i zE) (x.getD (i - b) zE) else x.getD i zE
theorem stepF_length (f : E → E → E) (b : Nat) (x : List E) : (stepF f b x).length = x.length := by simp [stepF]
theorem stepF_get (f : E → E → E) (b : Nat) (x : List E) (i : Nat) (h : i < (stepF f b x).length) : (stepF f b x)[i] = if i / b % 2 = 1 then f (x.getD i zE) (x.getD (i - b) zE) else x.getD i zE := by simp [stepF]
def turnL (f : E → E → E) : Nat → List E → List E
  | 0, x => x
  | n + 1, x => stepF f (2 ^ n) (turnL f n x)
theorem turnL_length (f : E → E → E) : ∀ (n : Nat) (x : List E), (turnL f n x).length = x.length
  | 0, x => rfl
  | n + 1, x => by rw [turnL, stepF_length, turnL_length f n x]
theorem half_low (f : E → E → E) (j n : Nat) (hj : j < n) (lo hi : List E) (h1 : lo.length = 2 ^ n) (h2 : hi.length = 2 ^ n) : stepF f (2 ^ j) (lo ++ hi) = stepF f (2 ^ j) lo ++ stepF f (2 ^ j) hi := by
  have hp : 0 < 2 ^ j := Nat.two_pow_pos j
  obtain ⟨c, hc⟩ : ∃ c, 2 ^ n = 2 ^ j * (2 * c) := ⟨2 ^ (n - j - 1), by rw [← Nat.pow_succ', ← Nat.pow_add]; congr 1; omega⟩
  refine List.ext_getElem (by simp [stepF_length]) fun i h3 h4 => ?_
  rw [stepF_get]
  by_cases h : i < lo.length
  · rw [List.getElem_append_left (by rw [stepF_length]; exact h), stepF_get]
    have e1 : (lo ++ hi).getD i zE = lo.getD i zE := by rw [List.getD_eq_getElem?_getD, List.getD_eq_getElem?_getD, List.getElem?_append_left h]
    have e2 : (lo ++ hi).getD (i - 2 ^ j) zE = lo.getD (i - 2 ^ j) zE := by rw [List.getD_eq_getElem?_getD, List.getD_eq_getElem?_getD, List.getElem?_append_left (by omega)]
    rw [e1, e2]
  · have hlen : i < lo.length + hi.length := by rw [stepF_length, List.length_append] at h3; exact h3
    rw [List.getElem_append_right (by rw [stepF_length]; omega), stepF_get]
    obtain ⟨m, rfl⟩ : ∃ m, i = lo.length + m := ⟨i - lo.length, by omega⟩
    have e0 : lo.length + m - (stepF f (2 ^ j) lo).length = m := by rw [stepF_length]; omega
    have ed : (lo.length + m) / 2 ^ j % 2 = m / 2 ^ j % 2 := by
      rw [h1, hc, Nat.mul_add_div hp, Nat.add_mod, Nat.mul_mod_right, Nat.zero_add, Nat.mod_mod]
    rw [e0, ed]
    have e1 : (lo ++ hi).getD (lo.length + m) zE = hi.getD m zE := by rw [List.getD_eq_getElem?_getD, List.getD_eq_getElem?_getD, List.getElem?_append_right (by omega), Nat.add_sub_cancel_left]
    by_cases hb : m / 2 ^ j % 2 = 1
    · have hm : 2 ^ j ≤ m := by
        apply Decidable.byContradiction
        intro hn
        rw [Nat.div_eq_of_lt (by omega)] at hb
        omega
      have e2 : (lo ++ hi).getD (lo.length + m - 2 ^ j) zE = hi.getD (m - 2 ^ j) zE := by
        rw [List.getD_eq_getElem?_getD, List.getD_eq_getElem?_getD, List.getElem?_append_right (by omega)]
        congr 2; omega
      rw [if_pos hb, if_pos hb, e1, e2]
    · rw [if_neg hb, if_neg hb, e1]
theorem half_top (f : E → E → E) (n : Nat) (lo hi : List E) (h1 : lo.length = 2 ^ n) (h2 : hi.length = 2 ^ n) : stepF f (2 ^ n) (lo ++ hi) = lo ++ List.zipWith f hi lo := by
  have hp : 0 < 2 ^ n := Nat.two_pow_pos n
  refine List.ext_getElem (by simp [stepF_length]; omega) fun i h3 h4 => ?_
  rw [stepF_get]
  have hlen : i < lo.length + hi.length := by rw [stepF_length, List.length_append] at h3; exact h3
  by_cases h : i < lo.length
  · rw [List.getElem_append_left h, Nat.div_eq_of_lt (by omega), if_neg (by omega), List.getD_eq_getElem?_getD, List.getElem?_append_left h, List.getElem?_eq_getElem h]; rfl
  · obtain ⟨m, rfl⟩ : ∃ m, i = lo.length + m := ⟨i - lo.length, by omega⟩
    have hm : m < hi.length := by omega
    have hm2 : m < lo.length := by omega
    have e0 : (lo.length + m) / 2 ^ n % 2 = 1 := by
      rw [h1, Nat.add_div_left _ hp, Nat.div_eq_of_lt (by omega)]
    have e1 : (lo ++ hi).getD (lo.length + m) zE = hi[m] := by rw [List.getD_eq_getElem?_getD, List.getElem?_append_right (by omega), Nat.add_sub_cancel_left, List.getElem?_eq_getElem hm]; rfl
    have e2 : (lo ++ hi).getD (lo.length + m - 2 ^ n) zE = lo[m] := by rw [h1, Nat.add_sub_cancel_left, List.getD_eq_getElem?_getD, List.getElem?_append_left hm2, List.getElem?_eq_getElem hm2]; rfl
    rw [if_pos e0, e1, e2, List.getElem_append_right (by omega)]
    simp
theorem turnL_halves (f : E → E → E) (n : Nat) (lo hi : List E) (h1 : lo.length = 2 ^ n) (h2 : hi.length = 2 ^ n) : ∀ j, j ≤ n → turnL f j (lo ++ hi) = turnL f j lo ++ turnL f j hi
  | 0, _ => rfl
  | j + 1, h => by
    rw [turnL, turnL_halves f n lo hi h1 h2 j (by omega), half_low f j n (by omega) _ _ (by rw [turnL_length]; exact h1) (by rw [turnL_length]; exact h2)]; rfl
theorem turnL_succ (f : E → E → E) (n : Nat) (lo hi : List E) (h1 : lo.length = 2 ^ n) (h2 : hi.length = 2 ^ n) : turnL f (n + 1) (lo ++ hi) = turnL f n lo ++ List.zipWith f (turnL f n hi) (turnL f n lo) := by
  rw [turnL, turnL_halves f n lo hi h1 h2 n (Nat.le_refl _), half_top f n _ _ (by rw [turnL_length]; exact h1) (by rw [turnL_length]; exact h2)]
theorem split_half {n : Nat} {x : List E} (h : x.length = 2 ^ (n + 1)) : ∃ lo hi, x = lo ++ hi ∧ lo.length = 2 ^ n ∧ hi.length = 2 ^ n := by
  refine ⟨x.take (2 ^ n), x.drop (2 ^ n), (List.take_append_drop _ _).symm, ?_, ?_⟩
  · rw [List.length_take, h, Nat.pow_succ]; omega
  · rw [List.length_drop, h, Nat.pow_succ]; omega
theorem add_sub_mix (a b c d : E) : eadd (esub a b) (esub c d) = esub (eadd a c) (eadd b d) := by
  refine E.ext_ ?_ ?_
  · show fadd (fsub a.f0 b.f0) (fsub c.f0 d.f0) = fsub (fadd a.f0 c.f0) (fadd b.f0 d.f0)
    unfold fadd fsub; omega
  · show fadd (fsub a.f1 b.f1) (fsub c.f1 d.f1) = fsub (fadd a.f1 c.f1) (fadd b.f1 d.f1)
    unfold fadd fsub; omega
theorem sub_add {a b : E} (ha : okE a) : eadd (esub a b) b = a := by
  refine E.ext_ ?_ ?_
  · show fadd (fsub a.f0 b.f0) b.f0 = a.f0
    have := ha.a; unfold inF at this; unfold fadd fsub; omega
  · show fadd (fsub a.f1 b.f1) b.f1 = a.f1
    have := ha.b; unfold inF at this; unfold fadd fsub; omega
theorem turn_sub : ∀ (n : Nat) (a b : List E), a.length = 2 ^ n → b.length = 2 ^ n → turnL eadd n (List.zipWith esub a b) = List.zipWith esub (turnL eadd n a) (turnL eadd n b)
  | 0, a, b, _, _ => rfl
  | n + 1, a, b, ha, hb => by
    obtain ⟨a1, a2, rfl, ha1, ha2⟩ := split_half ha
    obtain ⟨b1, b2, rfl, hb1, hb2⟩ := split_half hb
    have hz : List.zipWith esub (a1 ++ a2) (b1 ++ b2) = List.zipWith esub a1 b1 ++ List.zipWith esub a2 b2 := List.zipWith_append (by omega)
    rw [hz, turnL_succ eadd n _ _ (by simp; omega) (by simp; omega), turnL_succ eadd n a1 a2 ha1 ha2, turnL_succ eadd n b1 b2 hb1 hb2, turn_sub n a1 b1 ha1 hb1, turn_sub n a2 b2 ha2 hb2]
    have l1 := turnL_length eadd n a1
    have l2 := turnL_length eadd n a2
    have l3 := turnL_length eadd n b1
    have l4 := turnL_length eadd n b2
    rw [List.zipWith_append (by omega)]
    congr 1
    refine List.ext_getElem (by simp; omega) fun i h3 h4 => ?_
    simp only [List.getElem_zipWith]
    exact add_sub_mix _ _ _ _
theorem turnL_ok {f : E → E → E} (hf : ∀ a b, okE (f a b)) : ∀ (n : Nat) (x : List E), okL x → okL (turnL f n x)
  | 0, x, h => h
  | n + 1, x, h => by
    have ih := turnL_ok hf n x h
    intro y hy
    rw [turnL] at hy
    obtain ⟨i, hi, rfl⟩ := List.getElem_of_mem hy
    rw [stepF_get]
    by_cases hb : i / 2 ^ n % 2 = 1
    · rw [if_pos hb]; exact hf _ _
    · rw [if_neg hb]; exact okL_get ih i (by rw [stepF_length] at hi; exact hi)
theorem turn_back : ∀ (n : Nat) (x : List E), okL x → x.length = 2 ^ n → turnL eadd n (turnL esub n x) = x
  | 0, x, _, _ => rfl
  | n + 1, x, hx, hn => by
    obtain ⟨lo, hi, rfl, h1, h2⟩ := split_half hn
    have hlo : okL lo := fun y hy => hx y (List.mem_append_left _ hy)
    have hhi : okL hi := fun y hy => hx y (List.mem_append_right _ hy)
    have l1 := turnL_length esub n lo
    have l2 := turnL_length esub n hi
    rw [turnL_succ esub n lo hi h1 h2, turnL_succ eadd n _ _ (by omega) (by simp; omega), turn_sub n _ _ (by omega) (by omega), turn_back n lo hlo h1, turn_back n hi hhi h2]
    congr 1
    refine List.ext_getElem (by simp; omega) fun i h3 h4 => ?_
    simp only [List.getElem_zipWith]
    exact sub_add (hhi _ (List.getElem_mem _))
/-! the loops are this -/
theorem and_bit0 : ∀ a : Fin 64, ∀ j : Fin 6, (Go.bits .and .i64 (a.val : Int) ((2 ^ j.val : Nat) : Int) == 0) = decide (¬ a.val / 2 ^ j.val % 2 = 1) := by decide +kernel
theorem and_bit {i j : Nat} (hi : i < 64) (hj : j < 6) : Go.bits .and .i64 (i : Int) ((2 ^ j : Nat) : Int) = 0 ↔ ¬ i / 2 ^ j % 2 = 1 := by
  have := and_bit0 ⟨i, hi⟩ ⟨j, hj⟩
  simp only at this
  rw [Bool.eq_iff_iff, beq_iff_eq, decide_eq_true_eq] at this
  exact this
theorem take_drop_set (f : List E) (x : List E) (hl : f.length = x.length) (i : Nat) (h : i < x.length) (y : E) (hy : y = f[i]'(by omega)) : (f.take i ++ x.drop i).set i y = f.take (i + 1) ++ x.drop (i + 1) := by
  have hlen : (f.take i).length = i := by rw [List.length_take]; omega
  rw [List.drop_eq_getElem_cons h]
  have hs := set_mid (f.take i) (x.drop (i + 1)) x[i] y
  rw [hlen] at hs
  rw [hs, List.take_succ_eq_append_getElem (by omega), List.append_assoc, hy]; rfl
theorem take_drop_same (f : List E) (x : List E) (hl : f.length = x.length) (i : Nat) (h : i < x.length) (hy : x[i] = f[i]'(by omega)) : f.take i ++ x.drop i = f.take (i + 1) ++ x.drop (i + 1) := by
  rw [List.drop_eq_getElem_cons h, List.take_succ_eq_append_getElem (by omega), List.append_assoc, hy]; rfl
theorem turnminus_l1 (x : List E) (hx : okL x) (j : Nat) (hj : j < 6) (hn : x.length ≤ 64) (d : Nat) : ∀ (k i : Nat), i + d = x.length → d < k →
    impl_turned_minus.l1 k ((stepF esub (2 ^ j) x).take i ++ x.drop i) ((2 ^ j : Nat) : Int) (x.length : Int) i = impl_turned_minus.l0 (k - d - 1) (stepF esub (2 ^ j) x) ((2 ^ (j + 1) : Nat) : Int) := by
  have hb : 2 ^ j ≤ 32 := Nat.le_trans (Nat.pow_le_pow_right (by omega) (show j ≤ 5 by omega)) (by decide)
  have hb0 : 0 < 2 ^ j := Nat.two_pow_pos j
  have hs := stepF_length esub (2 ^ j) x
  induction d with
  | zero =>
    intro k i hi hk
    obtain ⟨k, rfl⟩ : ∃ m, k = m + 1 := ⟨k - 1, by omega⟩
    simp only [impl_turned_minus.l1]
    rw [if_neg (by omega), List.take_of_length_le (by omega), List.drop_eq_nil_of_le (by omega), List.append_nil, w64 (by omega) (by omega), Nat.pow_succ]
    congr 1
  | succ d ih =>
    intro k i hi hk
    obtain ⟨k, rfl⟩ : ∃ m, k = m + 1 := ⟨k - 1, by omega⟩
    have hlt : i < x.length := by omega
    have hlt2 : i < (stepF esub (2 ^ j) x).length := by omega
    have e : k + 1 - (d + 1) - 1 = k - d - 1 := by omega
    have hlen : ((stepF esub (2 ^ j) x).take i).length = i := by rw [List.length_take]; omega
    have htot : ((stepF esub (2 ^ j) x).take i ++ x.drop i).length = x.length := by rw [List.length_append, hlen, List.length_drop]; omega
    simp only [impl_turned_minus.l1]
    rw [if_pos (show (i : Int) < (x.length : Int) by omega), w64 (n := (i : Int) + 1) (by omega) (by omega), show (i : Int) + 1 = ((i + 1 : Nat) : Int) by omega, e]
    by_cases h : i / 2 ^ j % 2 = 1
    · have hji : 2 ^ j ≤ i := by
        apply Decidable.byContradiction
        intro hc
        rw [Nat.div_eq_of_lt (by omega)] at h
        omega
      have ei : (i : Int) - ((2 ^ j : Nat) : Int) = ((i - 2 ^ j : Nat) : Int) := by omega
      have hprev : ¬ (i - 2 ^ j) / 2 ^ j % 2 = 1 := by
        obtain ⟨m, rfl⟩ : ∃ m, i = m + 2 ^ j := ⟨i - 2 ^ j, by omega⟩
        rw [Nat.add_div_right _ hb0] at h
        rw [Nat.add_sub_cancel]
        omega
      have r1 : rd_T42 ((stepF esub (2 ^ j) x).take i ++ x.drop i) (i : Int) = x[i] := by
        rw [rdE_at (by omega), List.getElem_append_right (by omega)]
        simp only [List.getElem_drop]
        congr 1; omega
      have r2 : rd_T42 ((stepF esub (2 ^ j) x).take i ++ x.drop i) ((i - 2 ^ j : Nat) : Int) = x[i - 2 ^ j] := by
        rw [rdE_at (by omega), List.getElem_append_left (by omega), List.getElem_take, stepF_get, if_neg hprev, getD_at (by omega)]
      have h1 : okE x[i] := hx _ (List.getElem_mem _)
      have h2 : okE x[i - 2 ^ j] := hx _ (List.getElem_mem _)
      rw [if_neg (fun h0 => (and_bit (by omega) hj).1 h0 h), w64 (n := (i : Int) - _) (by omega) (by omega), ei, if_pos (show 0 ≤ (i : Int) by omega), if_pos (by omega), if_pos (by omega), if_pos (by omega), r1, r2, impl_minus_eq h1 h2]
      simp only [bS]
      rw [etaE, Int.toNat_natCast, take_drop_set (stepF esub (2 ^ j) x) x hs i hlt _ (by rw [stepF_get, if_pos h, getD_at hlt, getD_at (by omega)])]
      exact ih k (i + 1) (by omega) (by omega)
    · rw [if_pos ((and_bit (by omega) hj).2 h), take_drop_same (stepF esub (2 ^ j) x) x hs i hlt (by rw [stepF_get, if_neg h, getD_at hlt])]
      exact ih k (i + 1) (by omega) (by omega)
theorem turnminus_l0 (n : Nat) (hn : n ≤ 6) (d : Nat) : ∀ (j : Nat) (x : List E), j + d = n → okL x → x.length = 2 ^ n → ∀ k, d * 80 < k →
    ∃ q, impl_turned_minus.l0 k (turnL esub j x) ((2 ^ j : Nat) : Int) = some q ∧ q = turnL esub n x := by
  have hb : 2 ^ n ≤ 64 := Nat.le_trans (Nat.pow_le_pow_right (by omega) hn) (by decide)
  induction d with
  | zero =>
    intro j x hj hx hl k hk
    obtain ⟨k, rfl⟩ : ∃ m, k = m + 1 := ⟨k - 1, by omega⟩
    obtain rfl : j = n := by omega
    have hs := turnL_length esub j x
    simp only [impl_turned_minus.l0]
    rw [if_neg (by omega)]; exact ⟨_, rfl, rfl⟩
  | succ d ih =>
    intro j x hj hx hl k hk
    obtain ⟨k, rfl⟩ : ∃ m, k = m + 1 := ⟨k - 1, by omega⟩
    have hs := turnL_length esub j x
    have hp : 2 ^ j < 2 ^ n := Nat.pow_lt_pow_right (by omega) (by omega)
    simp only [impl_turned_minus.l0]
    rw [if_pos (by omega)]
    have e := turnminus_l1 (turnL esub j x) (turnL_ok ok_sub j x hx) j (by omega) (by omega) (turnL esub j x).length k 0 (by omega) (by omega)
    rw [List.take_zero, List.drop_zero, List.nil_append, Int.natCast_zero] at e
    rw [e]
    exact ih (j + 1) x (by omega) hx hl _ (by omega)
theorem turnedminus_is {n : Nat} (hn : n ≤ 6) {x : List E} (hx : okL x) (hl : x.length = 2 ^ n) {k : Nat} (hk : 500 < k) : impl_turned_minus.f k x = some (turnL esub n x) := by
  have hb : 2 ^ n ≤ 64 := Nat.le_trans (Nat.pow_le_pow_right (by omega) hn) (by decide)
  obtain ⟨q, e, rfl⟩ := turnminus_l0 n hn n 0 x (by omega) hx hl k (by omega)
  unfold impl_turned_minus.f
  rw [bS, if_pos (by simp; omega), List.nil_append]
  exact e
theorem turnplus_l1 (x : List E) (hx : okL x) (j : Nat) (hj : j < 6) (hn : x.length ≤ 64) (d : Nat) : ∀ (k i : Nat), i + d = x.length → d < k →
    impl_turned_plus.l1 k ((stepF eadd (2 ^ j) x).take i ++ x.drop i) ((2 ^ j : Nat) : Int) (x.length : Int) i = impl_turned_plus.l0 (k - d - 1) (stepF eadd (2 ^ j) x) ((2 ^ (j + 1) : Nat) : Int) := by
  have hb : 2 ^ j ≤ 32 := Nat.le_trans (Nat.pow_le_pow_right (by omega) (show j ≤ 5 by omega)) (by decide)
  have hb0 : 0 < 2 ^ j := Nat.two_pow_pos j
  have hs := stepF_length eadd (2 ^ j) x
  induction d with
  | zero =>
    intro k i hi hk
    obtain ⟨k, rfl⟩ : ∃ m, k = m + 1 := ⟨k - 1, by omega⟩
    simp only [impl_turned_plus.l1]
    rw [if_neg (by omega), List.take_of_length_le (by omega), List.drop_eq_nil_of_le (by omega), List.append_nil, w64 (by omega) (by omega), Nat.pow_succ]
    congr 1
  | succ d ih =>
    intro k i hi hk
    obtain ⟨k, rfl⟩ : ∃ m, k = m + 1 := ⟨k - 1, by omega⟩
    have hlt : i < x.length := by omega
    have hlt2 : i < (stepF eadd (2 ^ j) x).length := by omega
    have e : k + 1 - (d + 1) - 1 = k - d - 1 := by omega
    have hlen : ((stepF eadd (2 ^ j) x).take i).length = i := by rw [List.length_take]; omega
    have htot : ((stepF eadd (2 ^ j) x).take i ++ x.drop i).length = x.length := by rw [List.length_append, hlen, List.length_drop]; omega
    simp only [impl_turned_plus.l1]
    rw [if_pos (show (i : Int) < (x.length : Int) by omega), w64 (n := (i : Int) + 1) (by omega) (by omega), show (i : Int) + 1 = ((i + 1 : Nat) : Int) by omega, e]
    by_cases h : i / 2 ^ j % 2 = 1
    · have hji : 2 ^ j ≤ i := by
        apply Decidable.byContradiction
        intro hc
        rw [Nat.div_eq_of_lt (by omega)] at h
        omega
      have ei : (i : Int) - ((2 ^ j : Nat) : Int) = ((i - 2 ^ j : Nat) : Int) := by omega
      have hprev : ¬ (i - 2 ^ j) / 2 ^ j % 2 = 1 := by
        obtain ⟨m, rfl⟩ : ∃ m, i = m + 2 ^ j := ⟨i - 2 ^ j, by omega⟩
        rw [Nat.add_div_right _ hb0] at h
        rw [Nat.add_sub_cancel]
        omega
      have r1 : rd_T42 ((stepF eadd (2 ^ j) x).take i ++ x.drop i) (i : Int) = x[i] := by
        rw [rdE_at (by omega), List.getElem_append_right (by omega)]
        simp only [List.getElem_drop]
        congr 1; omega
      have r2 : rd_T42 ((stepF eadd (2 ^ j) x).take i ++ x.drop i) ((i - 2 ^ j : Nat) : Int) = x[i - 2 ^ j] := by
        rw [rdE_at (by omega), List.getElem_append_left (by omega), List.getElem_take, stepF_get, if_neg hprev, getD_at (by omega)]
      have h1 : okE x[i] := hx _ (List.getElem_mem _)
      have h2 : okE x[i - 2 ^ j] := hx _ (List.getElem_mem _)
      rw [if_neg (fun h0 => (and_bit (by omega) hj).1 h0 h), w64 (n := (i : Int) - _) (by omega) (by omega), ei, if_pos (show 0 ≤ (i : Int) by omega), if_pos (by omega), if_pos (by omega), if_pos (by omega), r1, r2, impl_plus_eq h1 h2]
      simp only [bS]
      rw [etaE, Int.toNat_natCast, take_drop_set (stepF eadd (2 ^ j) x) x hs i hlt _ (by rw [stepF_get, if_pos h, getD_at hlt, getD_at (by omega)])]
      exact ih k (i + 1) (by omega) (by omega)
    · rw [if_pos ((and_bit (by omega) hj).2 h), take_drop_same (stepF eadd (2 ^ j) x) x hs i hlt (by rw [stepF_get, if_neg h, getD_at hlt])]
      exact ih k (i + 1) (by omega) (by omega)
theorem turnplus_l0 (n : Nat) (hn : n ≤ 6) (d : Nat) : ∀ (j : Nat) (x : List E), j + d = n → okL x → x.length = 2 ^ n → ∀ k, d * 80 < k →
    ∃ q, impl_turned_plus.l0 k (turnL eadd j x) ((2 ^ j : Nat) : Int) = some q ∧ q = turnL eadd n x := by
  have hb : 2 ^ n ≤ 64 := Nat.le_trans (Nat.pow_le_pow_right (by omega) hn) (by decide)
  induction d with
  | zero =>
    intro j x hj hx hl k hk
    obtain ⟨k, rfl⟩ : ∃ m, k = m + 1 := ⟨k - 1, by omega⟩
    obtain rfl : j = n := by omega
    have hs := turnL_length eadd j x
    simp only [impl_turned_plus.l0]
    rw [if_neg (by omega)]; exact ⟨_, rfl, rfl⟩
  | succ d ih =>
    intro j x hj hx hl k hk
    obtain ⟨k, rfl⟩ : ∃ m, k = m + 1 := ⟨k - 1, by omega⟩
    have hs := turnL_length eadd j x
    have hp : 2 ^ j < 2 ^ n := Nat.pow_lt_pow_right (by omega) (by omega)
    simp only [impl_turned_plus.l0]
    rw [if_pos (by omega)]
    have e := turnplus_l1 (turnL eadd j x) (turnL_ok ok_add j x hx) j (by omega) (by omega) (turnL eadd j x).length k 0 (by omega) (by omega)
    rw [List.take_zero, List.drop_zero, List.nil_append, Int.natCast_zero] at e
    rw [e]
    exact ih (j + 1) x (by omega) hx hl _ (by omega)
theorem turnedplus_is {n : Nat} (hn : n ≤ 6) {x : List E} (hx : okL x) (hl : x.length = 2 ^ n) {k : Nat} (hk : 500 < k) : impl_turned_plus.f k x = some (turnL eadd n x) := by
  have hb : 2 ^ n ≤ 64 := Nat.le_trans (Nat.pow_le_pow_right (by omega) hn) (by decide)
  obtain ⟨q, e, rfl⟩ := turnplus_l0 n hn n 0 x (by omega) hx hl k (by omega)
  unfold impl_turned_plus.f
  rw [bS, if_pos (by simp; omega), List.nil_append]
  exact e
end Go.Proofs.Ytlfnfalckfggkaa.PT
end
section
/- Powers, inverses and the line: what the printed functions of chapter 2 come to. -/
namespace Go.Proofs.Ytlfnfalckfggkaa.PT
open Go.RowKit Go.Proofs.YtlfnfalckfggkaaW.PrintWords Go.Proofs.YtlfnfalckfggkaaW.PrintLast Go.Proofs.YtlfnfalckfggkaaW.PrintMore
set_option linter.unusedVariables false
set_option linter.unusedSimpArgs false
theorem e_al (a b : Int) : (a % 2130706433 + b) % 2130706433 = (a + b) % 2130706433 := by omega
theorem e_ar (a b : Int) : (a + b % 2130706433) % 2130706433 = (a + b) % 2130706433 := by omega
theorem e_sl (a b : Int) : (a % 2130706433 - b) % 2130706433 = (a - b) % 2130706433 := by omega
theorem e_sr (a b : Int) : (a - b % 2130706433) % 2130706433 = (a - b) % 2130706433 := by omega
theorem e_ml (a b : Int) : (a % 2130706433 * b) % 2130706433 = (a * b) % 2130706433 := by rw [Int.mul_emod, Int.emod_emod_of_dvd _ (Int.dvd_refl _), ← Int.mul_emod]
theorem e_mr (a b : Int) : (a * (b % 2130706433)) % 2130706433 = (a * b) % 2130706433 := by rw [Int.mul_emod, Int.emod_emod_of_dvd _ (Int.dvd_refl _), ← Int.mul_emod]
theorem scale_one {x : E} (hx : okE x) : escale x 1 = x := E.ext_ (fmul_one hx.a) (fmul_one hx.b)
end Go.Proofs.Ytlfnfalckfggkaa.PT
end
section
/- The field's order is a prime: powers, inverses and the greater field's laws. -/
namespace Go.Proofs.Ytlfnfalckfggkaa.PT
open Go.RowKit Go.Proofs.YtlfnfalckfggkaaW.PrintWords Go.Proofs.YtlfnfalckfggkaaW.PrintLast Go.Proofs.YtlfnfalckfggkaaW.PrintMore
set_option linter.unusedVariables false
set_option linter.unusedSimpArgs false
theorem emul_comm (x y : E) : emul x y = emul y x := by
  refine E.ext_ ?_ ?_
  · show fadd (fmul x.f0 y.f0) (fmul 3 (fmul x.f1 y.f1)) = fadd (fmul y.f0 x.f0) (fmul 3 (fmul y.f1 x.f1))
    rw [fmul_comm x.f0, fmul_comm x.f1]
  · show fadd (fmul x.f0 y.f1) (fmul x.f1 y.f0) = fadd (fmul y.f0 x.f1) (fmul y.f1 x.f0)
    unfold fadd fmul
    simp only [e_al, e_ar, e_ml, e_mr]
    congr 1; grind
theorem emul_assoc (x y z : E) : emul (emul x y) z = emul x (emul y z) := by
  refine E.ext_ ?_ ?_
  · show fadd (fmul (fadd (fmul x.f0 y.f0) (fmul 3 (fmul x.f1 y.f1))) z.f0) (fmul 3 (fmul (fadd (fmul x.f0 y.f1) (fmul x.f1 y.f0)) z.f1)) = fadd (fmul x.f0 (fadd (fmul y.f0 z.f0) (fmul 3 (fmul y.f1 z.f1)))) (fmul 3 (fmul x.f1 (fadd (fmul y.f0 z.f1) (fmul y.f1 z.f0))))
    unfold fadd fmul
    simp only [e_al, e_ar, e_ml, e_mr]
    congr 1; grind
  · show fadd (fmul (fadd (fmul x.f0 y.f0) (fmul 3 (fmul x.f1 y.f1))) z.f1) (fmul (fadd (fmul x.f0 y.f1) (fmul x.f1 y.f0)) z.f0) = fadd (fmul x.f0 (fadd (fmul y.f0 z.f1) (fmul y.f1 z.f0))) (fmul x.f1 (fadd (fmul y.f0 z.f0) (fmul 3 (fmul y.f1 z.f1))))
    unfold fadd fmul
    simp only [e_al, e_ar, e_ml, e_mr]
    congr 1; grind
theorem emul_one {x : E} (hx : okE x) : emul x (eof 1) = x := by rw [emul_of]; exact scale_one hx
theorem one_emul {x : E} (hx : okE x) : emul (eof 1) x = x := by rw [emul_comm, emul_one hx]
end Go.Proofs.Ytlfnfalckfggkaa.PT
end
section
/- A table's polynomial from its coefficients and from the equality weight: one value. -/
namespace Go.Proofs.Ytlfnfalckfggkaa.PT
open Go.RowKit Go.Proofs.YtlfnfalckfggkaaW.PrintWords Go.Proofs.YtlfnfalckfggkaaW.PrintLast Go.Proofs.YtlfnfalckfggkaaW.PrintMore
set_option linter.unusedVariables false
set_option linter.unusedSimpArgs false
theorem eadd_assoc (a b c : E) : eadd (eadd a b) c = eadd a (eadd b c) := by
  refine E.ext_ ?_ ?_
  · show fadd (fadd a.f0 b.f0) c.f0 = fadd a.f0 (fadd b.f0 c.f0)
    unfold fadd; omega
  · show fadd (fadd a.f1 b.f1) c.f1 = fadd a.f1 (fadd b.f1 c.f1)
    unfold fadd; omega
theorem eadd_comm (a b : E) : eadd a b = eadd b a := by
  refine E.ext_ ?_ ?_
  · show fadd a.f0 b.f0 = fadd b.f0 a.f0
    unfold fadd; omega
  · show fadd a.f1 b.f1 = fadd b.f1 a.f1
    unfold fadd; omega
theorem eadd_zero {a : E} (h : okE a) : eadd a zE = a := by
  refine E.ext_ ?_ ?_
  · show fadd a.f0 0 = a.f0
    have := h.a; unfold inF at this; unfold fadd; omega
  · show fadd a.f1 0 = a.f1
    have := h.b; unfold inF at this; unfold fadd; omega
theorem zero_eadd {a : E} (h : okE a) : eadd zE a = a := by rw [eadd_comm, eadd_zero h]
theorem emul_add (a b c : E) : emul (eadd a b) c = eadd (emul a c) (emul b c) := by
  refine E.ext_ ?_ ?_
  · show fadd (fmul (fadd a.f0 b.f0) c.f0) (fmul 3 (fmul (fadd a.f1 b.f1) c.f1)) = fadd (fadd (fmul a.f0 c.f0) (fmul 3 (fmul a.f1 c.f1))) (fadd (fmul b.f0 c.f0) (fmul 3 (fmul b.f1 c.f1)))
    unfold fadd fmul
    simp only [e_al, e_ar, e_ml, e_mr]
    congr 1; grind
  · show fadd (fmul (fadd a.f0 b.f0) c.f1) (fmul (fadd a.f1 b.f1) c.f0) = fadd (fadd (fmul a.f0 c.f1) (fmul a.f1 c.f0)) (fadd (fmul b.f0 c.f1) (fmul b.f1 c.f0))
    unfold fadd fmul
    simp only [e_al, e_ar, e_ml, e_mr]
    congr 1; grind
theorem emul_sub (a b c : E) : emul (esub a b) c = esub (emul a c) (emul b c) := by
  refine E.ext_ ?_ ?_
  · show fadd (fmul (fsub a.f0 b.f0) c.f0) (fmul 3 (fmul (fsub a.f1 b.f1) c.f1)) = fsub (fadd (fmul a.f0 c.f0) (fmul 3 (fmul a.f1 c.f1))) (fadd (fmul b.f0 c.f0) (fmul 3 (fmul b.f1 c.f1)))
    unfold fadd fmul fsub
    simp only [e_al, e_ar, e_ml, e_mr, e_sl, e_sr]
    congr 1; grind
  · show fadd (fmul (fsub a.f0 b.f0) c.f1) (fmul (fsub a.f1 b.f1) c.f0) = fsub (fadd (fmul a.f0 c.f1) (fmul a.f1 c.f0)) (fadd (fmul b.f0 c.f1) (fmul b.f1 c.f0))
    unfold fadd fmul fsub
    simp only [e_al, e_ar, e_ml, e_mr, e_sl, e_sr]
    congr 1; grind
theorem zero_emul (c : E) : emul zE c = zE := by
  refine E.ext_ ?_ ?_
  · show fadd (fmul 0 c.f0) (fmul 3 (fmul 0 c.f1)) = 0
    unfold fadd fmul; simp
  · show fadd (fmul 0 c.f1) (fmul 0 c.f0) = 0
    unfold fadd fmul; simp
def sumE : List E → E
  | [] => zE
  | x :: xs => eadd x (sumE xs)
theorem ok_sum : ∀ l, okE (sumE l)
  | [] => ok_zero
  | _ :: _ => ok_add _ _
theorem sum_append {b : List E} : ∀ a : List E, sumE (a ++ b) = eadd (sumE a) (sumE b)
  | [] => (zero_eadd (ok_sum b)).symm
  | x :: xs => by rw [List.cons_append, sumE, sum_append xs, sumE, eadd_assoc]
theorem sum_mul (p : E) : ∀ l : List E, sumE (l.map fun x => emul x p) = emul (sumE l) p
  | [] => (zero_emul p).symm
  | x :: xs => by rw [List.map_cons, sumE, sum_mul p xs, sumE, emul_add]
theorem sum_sub : ∀ (a b : List E), a.length = b.length → sumE (List.zipWith esub a b) = esub (sumE a) (sumE b)
  | [], [], _ => by decide
  | x :: xs, y :: ys, h => by
    rw [List.zipWith_cons_cons, sumE, sum_sub xs ys (by simpa using h), sumE, sumE, add_sub_mix]
/-- A monomial's value times a: the bits of m choose among the point's elements. -/
def monF (m : Nat) : Nat → List E → E → E
  | _, [], a => a
  | i, p :: ps, a => monF m (i + 1) ps (if m / 2 ^ i % 2 = 1 then emul a p else a)
theorem monF_snoc (m : Nat) (p : E) : ∀ (ps : List E) (i : Nat) (a : E), monF m i (ps ++ [p]) a = (if m / 2 ^ (i + ps.length) % 2 = 1 then emul (monF m i ps a) p else monF m i ps a)
  | [], i, a => rfl
  | q :: qs, i, a => by
    rw [List.cons_append, monF, monF_snoc m p qs, monF, List.length_cons, show i + 1 + qs.length = i + (qs.length + 1) by omega]
theorem monF_sub (m : Nat) : ∀ (ps : List E) (i : Nat) (a b : E), monF m i ps (esub a b) = esub (monF m i ps a) (monF m i ps b)
  | [], i, a, b => rfl
  | q :: qs, i, a, b => by
    rw [monF, monF, monF]
    by_cases h : m / 2 ^ i % 2 = 1
    · rw [if_pos h, if_pos h, if_pos h, emul_sub, monF_sub m qs]
    · rw [if_neg h, if_neg h, if_neg h, monF_sub m qs]
theorem monF_low {m c : Nat} : ∀ (ps : List E) (i n : Nat) (a : E), i + ps.length ≤ n → monF (2 ^ n + m) i ps a = monF m i ps a
  | [], i, n, a, _ => rfl
  | q :: qs, i, n, a, h => by
    rw [List.length_cons] at h
    have hp : 0 < 2 ^ i := Nat.two_pow_pos i
    have e : (2 ^ n + m) / 2 ^ i % 2 = m / 2 ^ i % 2 := by
      obtain ⟨d, hd⟩ : ∃ d, 2 ^ n = 2 ^ i * (2 * d) := ⟨2 ^ (n - i - 1), by rw [← Nat.pow_succ', ← Nat.pow_add]; congr 1; omega⟩
      rw [hd, Nat.mul_add_div hp, Nat.add_mod, Nat.mul_mod_right, Nat.zero_add, Nat.mod_mod]
    rw [monF, monF, e]
    exact monF_low (c := c) qs (i + 1) n _ (by omega)
def evalS (c ps : List E) : E := sumE ((List.range c.length).map fun m => monF m 0 ps (c.getD m zE))
theorem eval_snoc (n : Nat) (c1 c2 ps : List E) (p : E) (h1 : c1.length = 2 ^ n) (h2 : c2.length = 2 ^ n) (hn : ps.length = n) : evalS (c1 ++ c2) (ps ++ [p]) = eadd (evalS c1 ps) (emul (evalS c2 ps) p) := by
  unfold evalS
  rw [List.length_append, List.range_add, List.map_append, sum_append, List.map_map, ← sum_mul, List.map_map]
  congr 2
  · refine List.map_congr_left fun m hm => ?_
    rw [List.mem_range] at hm
    rw [monF_snoc, Nat.zero_add, hn, Nat.div_eq_of_lt (by omega), if_neg (by omega), List.getD_eq_getElem?_getD, List.getElem?_append_left hm, List.getD_eq_getElem?_getD]
  · refine List.map_congr_left fun m hm => ?_
    rw [List.mem_range] at hm
    show monF (c1.length + m) 0 (ps ++ [p]) ((c1 ++ c2).getD (c1.length + m) zE) = _
    have hp : 0 < 2 ^ n := Nat.two_pow_pos n
    rw [monF_snoc, Nat.zero_add, hn, h1, Nat.add_div_left _ hp, Nat.div_eq_of_lt (by omega), if_pos (by omega), List.getD_eq_getElem?_getD, List.getElem?_append_right (by omega)]
    show emul (monF (2 ^ n + m) 0 ps _) p = emul (monF m 0 ps (c2.getD m zE)) p
    rw [monF_low (c := 0) ps 0 n _ (by omega), h1, Nat.add_sub_cancel_left, List.getD_eq_getElem?_getD]
theorem eval_sub (c d ps : List E) (h : c.length = d.length) : evalS (List.zipWith esub c d) ps = esub (evalS c ps) (evalS d ps) := by
  unfold evalS
  rw [← sum_sub _ _ (by simp [h])]
  congr 1
  refine List.ext_getElem (by simp [h]) fun i h3 h4 => ?_
  have hi : i < c.length := by simp at h3; omega
  have hd : i < d.length := by omega
  simp only [List.getElem_map, List.getElem_range, List.getElem_zipWith]
  rw [getD_at (by simp; omega), getD_at hi, getD_at hd, List.getElem_zipWith, monF_sub]
def dotL (x y : List E) : E := sumE (List.zipWith emul x y)
theorem wAll_snoc (p : E) : ∀ (ps L : List E), wAll L (ps ++ [p]) = wNext (wAll L ps) p
  | [], L => rfl
  | q :: qs, L => wAll_snoc p qs _
theorem dot_scaled (x W : List E) (s : E) : ∀ _ : x.length = W.length, dotL x (W.map fun w => emul w s) = emul (dotL x W) s := by
  intro h
  unfold dotL
  rw [← sum_mul]
  congr 1
  refine List.ext_getElem (by simp) fun i h3 h4 => ?_
  simp only [List.getElem_zipWith, List.getElem_map]
  rw [emul_assoc]
theorem line_mix (a b p : E) (ha : okE a) : eadd (emul a (esub (eof 1) p)) (emul b p) = eadd a (emul (esub b a) p) := by
  have e1 : emul a (esub (eof 1) p) = esub a (emul a p) := by rw [emul_comm, emul_sub, one_emul ha, emul_comm p]
  rw [e1, emul_sub]
  refine E.ext_ ?_ ?_
  · show fadd (fsub a.f0 (emul a p).f0) (emul b p).f0 = fadd a.f0 (fsub (emul b p).f0 (emul a p).f0)
    unfold fadd fsub; omega
  · show fadd (fsub a.f1 (emul a p).f1) (emul b p).f1 = fadd a.f1 (fsub (emul b p).f1 (emul a p).f1)
    unfold fadd fsub; omega
/-- The two readings agree. -/
theorem eval_dot : ∀ (n : Nat) (ps x : List E), ps.length = n → x.length = 2 ^ n → okL x → evalS (turnL esub n x) ps = dotL x (eqTab ps)
  | 0, ps, x, hp, hl, hx => by
    obtain rfl := List.length_eq_zero_iff.mp hp
    obtain ⟨a, rfl⟩ := List.length_eq_one_iff.mp hl
    have ha : okE a := hx a (by simp)
    show sumE [a] = sumE [emul a (eof 1)]
    rw [emul_one ha]
  | n + 1, ps, x, hp, hl, hx => by
    obtain ⟨qs, p, rfl⟩ : ∃ qs p, ps = qs ++ [p] := ⟨ps.dropLast, ps.getLast (by intro h; rw [h] at hp; cases hp), (List.dropLast_concat_getLast _).symm⟩
    have hq : qs.length = n := by simp at hp; exact hp
    obtain ⟨lo, hi, rfl, h1, h2⟩ := split_half hl
    have hlo : okL lo := fun y hy => hx y (List.mem_append_left _ hy)
    have hhi : okL hi := fun y hy => hx y (List.mem_append_right _ hy)
    have l1 := turnL_length esub n lo
    have l2 := turnL_length esub n hi
    have l3 := eqTab_length qs
    rw [turnL_succ esub n lo hi h1 h2, eval_snoc n _ _ qs p (by omega) (by simp; omega) hq, eval_sub _ _ _ (by omega), eval_dot n qs lo hq h1 hlo, eval_dot n qs hi hq h2 hhi]
    have e : eqTab (qs ++ [p]) = (eqTab qs).map (fun w => emul w (esub (eof 1) p)) ++ (eqTab qs).map (fun w => emul w p) := wAll_snoc p qs _
    rw [e]
    unfold dotL
    rw [List.zipWith_append (by simp; rw [l3, hq]; exact h1), sum_append]
    show _ = eadd (dotL lo _) (dotL hi _)
    rw [dot_scaled lo _ _ (by rw [l3, hq]; exact h1), dot_scaled hi _ _ (by rw [l3, hq]; exact h2), line_mix (dotL lo (eqTab qs)) (dotL hi (eqTab qs)) p (ok_sum _)]
    rfl
end Go.Proofs.Ytlfnfalckfggkaa.PT
end
section
/- What is drawn from bytes: the numbers and elements that the laws draw are of the field. -/
namespace Go.Proofs.Ytlfnfalckfggkaa.PT
open Go.RowKit Go.Proofs.YtlfnfalckfggkaaW.PrintWords Go.Proofs.YtlfnfalckfggkaaW.PrintLast Go.Proofs.YtlfnfalckfggkaaW.PrintMore
set_option linter.unusedVariables false
set_option linter.unusedSimpArgs false
def bytesL (l : List Int) : Prop := ∀ x ∈ l, 0 ≤ x ∧ x ≤ 255
theorem bytesL_rd {l : List Int} (h : bytesL l) {i : Int} (h0 : 0 ≤ i) (h1 : i < l.length) : 0 ≤ rd l i ∧ rd l i ≤ 255 := by
  show 0 ≤ l.getD i.toNat 0 ∧ l.getD i.toNat 0 ≤ 255
  rw [getD_at (show i.toNat < l.length by omega)]
  exact h _ (List.getElem_mem _)
def stOK (p s : Int) (b : Int) : Prop := 0 ≤ p ∧ p ≤ b ∧ 0 ≤ s ∧ s < 2147483648
theorem byte_ok {l : List Int} (h : bytesL l) {p s b : Int} (hs : stOK p s b) (hb : b ≤ 1000000000) : ∃ v s', spec_l00Src_byte.f l p s = some (v, p + 1, s') ∧ 0 ≤ v ∧ v ≤ 255 ∧ stOK (p + 1) s' (b + 1) := by
  obtain ⟨h0, h1, h2, h3⟩ := hs
  unfold spec_l00Src_byte.f
  rw [if_pos (by omega)]
  by_cases h4 : p < (l.length : Int)
  · have hr := bytesL_rd h h0 h4
    rw [if_pos h4, if_pos hr]
    exact ⟨_, _, rfl, hr.1, hr.2, by unfold stOK; omega⟩
  · rw [if_neg h4]
    by_cases h5 : 2999 < p
    · rw [if_pos h5]; exact ⟨_, _, rfl, by omega, by omega, by unfold stOK; omega⟩
    · rw [if_neg h5]
      refine ⟨_, _, rfl, by omega, by omega, ?_⟩
      unfold stOK spec_l00Src_byte.next; omega
theorem next_ok {l : List Int} (h : bytesL l) {p s b a : Int} (hs : stOK p s b) (hb : b ≤ 1000000000) (ha : 2 ≤ a) (ha2 : a ≤ 256) : ∃ v s', spec_l00Src_next.f l p s a = some (v, p + 1, s') ∧ 0 ≤ v ∧ v < a ∧ v ≤ 255 ∧ stOK (p + 1) s' (b + 1) := by
  obtain ⟨v, s', e, h0, h1, h2⟩ := byte_ok h hs hb
  unfold spec_l00Src_next.f
  rw [if_neg (by omega), if_pos ha2, e]
  simp only [bS]
  rw [if_neg (by omega), tmod_nn h0]
  have hm : v % a ≤ v := by
    rcases Int.lt_or_le v a with h | h
    · rw [Int.emod_eq_of_lt h0 h]; exact Int.le_refl _
    · have := Int.emod_lt_of_pos v (show 0 < a by omega); omega
  exact ⟨_, _, rfl, Int.emod_nonneg _ (by omega), Int.emod_lt_of_pos _ (by omega), by omega, h2⟩
theorem chance_ok {l : List Int} (h : bytesL l) {p s b : Int} (hs : stOK p s b) (hb : b ≤ 1000000000) : ∃ v s', spec_l00Src_chance.f l p s 4 = some (v, p + 1, s') ∧ stOK (p + 1) s' (b + 1) := by
  obtain ⟨v, s', e, _, _, _, h2⟩ := next_ok h hs hb (a := 4) (by omega) (by omega)
  unfold spec_l00Src_chance.f
  rw [e]
  exact ⟨_, _, rfl, h2⟩
theorem field_l0 {l : List Int} (h : bytesL l) (d : Nat) : ∀ (k i : Nat) (v p s b : Int), i + d = 5 → d < k → inF v → stOK p s b → b + d ≤ 1000000000 →
    ∃ v' p' s', spec_l00Src_field.l0 k v i l p s = some (v', p', s') ∧ inF v' ∧ stOK p' s' (b + d) := by
  induction d with
  | zero =>
    intro k i v p s b hi hk hv hs hb
    obtain ⟨k, rfl⟩ : ∃ m, k = m + 1 := ⟨k - 1, by omega⟩
    simp only [spec_l00Src_field.l0]
    rw [if_neg (by omega)]
    exact ⟨_, _, _, rfl, hv, by unfold stOK at *; omega⟩
  | succ d ih =>
    intro k i v p s b hi hk hv hs hb
    obtain ⟨k, rfl⟩ : ∃ m, k = m + 1 := ⟨k - 1, by omega⟩
    obtain ⟨u, s', e, h0, h1, h2, h3⟩ := next_ok h hs (by omega) (a := 256) (by omega) (by omega)
    simp only [spec_l00Src_field.l0]
    rw [if_pos (by omega), e]
    simp only [bS]
    unfold inF at hv
    rw [w64 (n := v * 256) (by omega) (by omega), w64 (n := v * 256 + u) (by omega) (by omega), tmod_nn (by omega), w64 (by omega) (by omega), show (i : Int) + 1 = ((i + 1 : Nat) : Int) by omega]
    obtain ⟨v', p', s'', e2, hv', hs'⟩ := ih k (i + 1) ((v * 256 + u) % 2130706433) (p + 1) s' (b + 1) (by omega) (by omega) (by unfold inF; omega) h3 (by omega)
    exact ⟨v', p', s'', e2, hv', by unfold stOK at *; omega⟩
theorem field_ok {l : List Int} (h : bytesL l) {p s b : Int} (hs : stOK p s b) (hb : b ≤ 900000000) {k : Nat} (hk : 10 < k) : ∃ v p' s', spec_l00Src_field.f k l p s = some (v, p', s') ∧ inF v ∧ stOK p' s' (b + 10) := by
  obtain ⟨u, s1, e1, h0, h1, _, h2⟩ := next_ok h hs (by omega) (a := 5) (by omega) (by omega)
  unfold spec_l00Src_field.f
  rw [e1]
  simp only [bS]
  by_cases hu : u = 0
  · obtain ⟨v, s2, e2, h3, h4, _, h5⟩ := next_ok h h2 (by omega) (a := 4) (by omega) (by omega)
    rw [if_pos hu, e2]
    simp only [bS]
    exact ⟨_, _, _, rfl, by unfold inF; omega, by unfold stOK at *; omega⟩
  · rw [if_neg hu]
    by_cases hu1 : u = 1
    · obtain ⟨v, s2, e2, h3, h4, _, h5⟩ := next_ok h h2 (by omega) (a := 3) (by omega) (by omega)
      rw [if_pos hu1, e2]
      simp only [bS]
      rw [w64 (by omega) (by omega)]
      exact ⟨_, _, _, rfl, by unfold inF; omega, by unfold stOK at *; omega⟩
    · rw [if_neg hu1]
      obtain ⟨v', p', s', e2, hv, h5⟩ := field_l0 h 5 k 0 0 (p + 1) s1 (b + 1) (by omega) (by omega) inF_0 h2 (by omega)
      rw [Int.natCast_zero] at e2
      exact ⟨v', p', s', e2, hv, by unfold stOK at *; omega⟩
theorem ext_ok {l : List Int} (h : bytesL l) {p s b : Int} (hs : stOK p s b) (hb : b ≤ 800000000) {k : Nat} (hk : 10 < k) : ∃ (x : E) (p' s' : Int), spec_l00Src_ext.f k l p s = some (x.f0, x.f1, p', s') ∧ okE x ∧ stOK p' s' (b + 30) := by
  obtain ⟨c, s1, e1, h1⟩ := chance_ok h hs (by omega)
  obtain ⟨u, p2, s2, e2, hu, h2⟩ := field_ok h h1 (by omega) hk
  unfold spec_l00Src_ext.f
  rw [e1]
  simp only [bS]
  by_cases hc : c = true
  · rw [if_pos hc, e2]
    simp only [bS]
    exact ⟨⟨u, 0⟩, p2, s2, rfl, ⟨hu, inF_0⟩, by unfold stOK at *; omega⟩
  · obtain ⟨v, p3, s3, e3, hv, h3⟩ := field_ok h h2 (by omega) hk
    rw [if_neg hc, e2]
    simp only [bS]
    rw [e3]
    simp only [bS]
    exact ⟨⟨u, v⟩, p3, s3, rfl, ⟨hu, hv⟩, by unfold stOK at *; omega⟩
theorem source_ok (l : List Int) : ∃ s, spec_l00Source.f l = some (l, 0, s) ∧ stOK 0 s 0 := by
  unfold spec_l00Source.f
  exact ⟨_, rfl, by unfold stOK; omega⟩
theorem exts_l0 {l : List Int} (h : bytesL l) (n : Nat) (hn : n ≤ 4096) (d : Nat) : ∀ (i : Nat) (a : List E) (p s b : Int), i + d = n → a.length = i → okL a → stOK p s b → b ≤ 30 * i →
    ∃ q : List E, (okL q ∧ q.length = n) ∧ ∀ k, d + 10 < k → ∃ p' s', spec_l00Src_exts.l0 k (n : Int) a i l p s = some (q, p', s') := by
  induction d with
  | zero =>
    intro i a p s b hi ha hoa hs hb
    refine ⟨a, ⟨hoa, by omega⟩, fun k hk => ?_⟩
    obtain ⟨k, rfl⟩ : ∃ m, k = m + 1 := ⟨k - 1, by omega⟩
    simp only [spec_l00Src_exts.l0]
    rw [if_neg (by omega)]; exact ⟨_, _, rfl⟩
  | succ d ih =>
    intro i a p s b hi ha hoa hs hb
    obtain ⟨x, p', s', e, hx, hs'⟩ := ext_ok h hs (by omega) (k := 11) (by omega)
    obtain ⟨q, hq, hk2⟩ := ih (i + 1) (a ++ [x]) p' s' (b + 30) (by omega) (by simp; omega) (okL_app hoa (okL_one hx)) hs' (by omega)
    refine ⟨q, hq, fun k hk => ?_⟩
    obtain ⟨k, rfl⟩ : ∃ m, k = m + 1 := ⟨k - 1, by omega⟩
    have e' : spec_l00Src_ext.f k l p s = some (x.f0, x.f1, p', s') := by
      obtain ⟨x2, p2, s2, e2, _, _⟩ := ext_ok h hs (by omega) (k := k) (by omega)
      have hm : ∀ m, spec_l00Src_ext.f 11 l p s = some (x.f0, x.f1, p', s') → spec_l00Src_ext.f (11 + m) l p s = some (x.f0, x.f1, p', s') := by
        intro m h11
        induction m with
        | zero => exact h11
        | succ m ihm =>
          exact spec_l00Src_ext.mono l p s (11 + m) _ ihm
      obtain ⟨m, rfl⟩ : ∃ m, k = 11 + m := ⟨k - 11, by omega⟩
      exact hm m e
    simp only [spec_l00Src_exts.l0]
    rw [if_pos (by omega), e']
    simp only [bS]
    rw [if_pos (by omega), w64 (by omega) (by omega), show (i : Int) + 1 = ((i + 1 : Nat) : Int) by omega]
    exact hk2 k (by omega)
theorem ExtsOf_ok {l : List Int} (h : bytesL l) (n : Nat) (hn : n ≤ 4096) : ∃ q : List E, (okL q ∧ q.length = n) ∧ ∀ k, n + 20 < k → spec_ExtsOf.f k l (n : Int) = some q := by
  obtain ⟨s, e, hs⟩ := source_ok l
  obtain ⟨q, hq, hk2⟩ := exts_l0 h n hn n 0 [] 0 s 0 (by omega) rfl okL_nil hs (by omega)
  refine ⟨q, hq, fun k hk => ?_⟩
  obtain ⟨p', s', e2⟩ := hk2 k (by omega)
  unfold spec_ExtsOf.f spec_l00Src_exts.f
  rw [e]
  simp only [bS]
  rw [Int.natCast_zero] at e2
  rw [e2]
  simp only [bS]
theorem at_ok {l : List Int} (h : bytesL l) (hl : l.length ≤ 1048576) {a n : Int} (ha : 0 ≤ a) (ha2 : a ≤ 10) (hn : 0 ≤ n) (hn2 : n ≤ 1000000) : ∃ t, laws_at.f l a n = some t ∧ 0 ≤ t ∧ (t < n ∨ t = 0) := by
  unfold laws_at.f
  by_cases h1 : n ≤ 1
  · rw [if_pos h1]; exact ⟨0, rfl, by omega, by omega⟩
  · rw [if_neg h1]
    by_cases h2 : (l.length : Int) = 0
    · rw [if_pos h2, if_neg (by omega), w64 (by omega) (by omega), tmod_nn (by omega)]
      exact ⟨_, rfl, Int.emod_nonneg _ (by omega), Or.inl (Int.emod_lt_of_pos _ (by omega))⟩
    · have hp : 0 < (l.length : Int) := by omega
      have m0 := Int.emod_nonneg a (show (l.length : Int) ≠ 0 by omega)
      have m1 := Int.emod_lt_of_pos a hp
      have m2 := Int.emod_nonneg (a + 1) (show (l.length : Int) ≠ 0 by omega)
      have m3 := Int.emod_lt_of_pos (a + 1) hp
      have r1 := bytesL_rd h m0 m1
      have r2 := bytesL_rd h m2 m3
      have d0 : 0 ≤ a / (l.length : Int) := Int.ediv_nonneg ha (by omega)
      have d1 : a / (l.length : Int) ≤ a := Int.ediv_le_self _ ha
      rw [if_neg h2, tmod_nn ha, w64 (n := a + 1) (by omega) (by omega), tmod_nn (by omega), tdiv_nn ha, if_pos m0, if_pos m1, if_pos m2, if_pos m3, if_neg (by omega),
        w64 (n := rd l (a % (l.length : Int))) (by omega) (by omega), w64 (n := rd l (a % (l.length : Int)) * 31) (by omega) (by omega), w64 (n := rd l ((a + 1) % (l.length : Int))) (by omega) (by omega),
        w64 (n := _ + rd l ((a + 1) % (l.length : Int))) (by omega) (by omega), w64 (n := a / (l.length : Int)) (by omega) (by omega), w64 (n := _ + a / (l.length : Int)) (by omega) (by omega), tmod_nn (by omega)]
      exact ⟨_, rfl, Int.emod_nonneg _ (by omega), Or.inl (Int.emod_lt_of_pos _ (by omega))⟩
end Go.Proofs.Ytlfnfalckfggkaa.PT
end
section
/- The greater field's operations as the laws call them, and tables as values. -/
namespace Go.Proofs.Ytlfnfalckfggkaa.PT
open Go.RowKit Go.Proofs.YtlfnfalckfggkaaW.PrintWords Go.Proofs.YtlfnfalckfggkaaW.PrintLast Go.Proofs.YtlfnfalckfggkaaW.PrintMore
set_option linter.unusedVariables false
set_option linter.unusedSimpArgs false
theorem ExtMul_eq {x y : E} (hx : okE x) (hy : okE y) : impl_ExtMul.f x.f0 x.f1 y.f0 y.f1 = some ((emul x y).f0, (emul x y).f1, 0) := by
  unfold impl_ExtMul.f impl_extTwo_times.f
  rw [impl_ExtOK_eq, impl_ExtOK_eq, etaE, etaE, (okB_iff x).2 hx, (okB_iff y).2 hy]
  simp only [bS, if_true]
  rw [impl_times_eq hx hy]
  simp only [bS]
theorem ExtAdd_eq {x y : E} (hx : okE x) (hy : okE y) : impl_ExtAdd.f x.f0 x.f1 y.f0 y.f1 = some ((eadd x y).f0, (eadd x y).f1, 0) := by
  unfold impl_ExtAdd.f impl_extTwo_plus.f
  rw [impl_ExtOK_eq, impl_ExtOK_eq, etaE, etaE, (okB_iff x).2 hx, (okB_iff y).2 hy]
  simp only [bS, if_true]
  rw [impl_plus_eq hx hy]
  simp only [bS]
theorem same_l0 (a : List E) (hl : a.length ≤ 1048576) (d : Nat) : ∀ (k i : Nat), i + d = a.length → d < k → laws_sameExts.l0 k a a i = some true := by
  induction d with
  | zero =>
    intro k i hi hk
    obtain ⟨k, rfl⟩ : ∃ m, k = m + 1 := ⟨k - 1, by omega⟩
    simp only [laws_sameExts.l0]; rw [if_neg (by omega)]
  | succ d ih =>
    intro k i hi hk
    obtain ⟨k, rfl⟩ : ∃ m, k = m + 1 := ⟨k - 1, by omega⟩
    simp only [laws_sameExts.l0, beq_self_eq_true, Bool.not_true, Bool.or_false, Bool.false_eq_true, if_false]
    rw [if_pos (show (i : Int) < (a.length : Int) by omega), if_pos (show 0 ≤ (i : Int) by omega), if_pos (show (i : Int) < (a.length : Int) by omega), w64 (by omega) (by omega), show (i : Int) + 1 = ((i + 1 : Nat) : Int) by omega]
    exact ih k (i + 1) (by omega) (by omega)
theorem sameExts_refl {a : List E} (hl : a.length ≤ 1048576) {k : Nat} (hk : a.length < k) : laws_sameExts.f k a a = some true := by
  unfold laws_sameExts.f; rw [if_pos rfl]; exact same_l0 a hl a.length k 0 (by omega) hk
theorem tableB {n : Nat} (hn : n ≤ 6) {x : List E} (hx : okL x) (hl : x.length = 2 ^ n) : (pow2B x.length 64 && okLB x) = true := by
  rw [(okLB_iff x).2 hx, Bool.and_true, hl]
  rcases (show n = 0 ∨ n = 1 ∨ n = 2 ∨ n = 3 ∨ n = 4 ∨ n = 5 ∨ n = 6 by omega) with h | h | h | h | h | h | h <;> subst h <;> decide
theorem CoefsOf_eq {n : Nat} (hn : n ≤ 6) {x : List E} (hx : okL x) (hl : x.length = 2 ^ n) {k : Nat} (hk : 2000 < k) : impl_CoefsOf.f k x = some (turnL esub n x, 0) ∧ spec_CoefsOf.f k x = some (turnL esub n x, 0) := by
  have hb : 2 ^ n ≤ 64 := Nat.le_trans (Nat.pow_le_pow_right (by omega) hn) (by decide)
  have e := turnedminus_is hn hx hl (k := k) (by omega)
  have e2 := (turnminus_same x.length (by omega) k).1 x 1 hx rfl (Or.inl (Or.inl rfl))
  have e3 : spec_l06Coefs.f k x false = some (turnL esub n x) := by
    unfold impl_turned_minus.f at e
    rw [bS, if_pos (by simp; omega), List.nil_append, e2] at e
    unfold spec_l06Coefs.f
    rw [bS, if_pos (by simp; omega), List.nil_append]; exact e
  unfold impl_CoefsOf.f impl_turnedTable_minus.f spec_CoefsOf.f
  rw [if_neg (by omega), if_neg (by omega), impl_TableOK_eq, spec_TableOK_eq (by omega) (by omega), tableB hn hx hl]
  simp only [bS, if_true]
  rw [e, e3]
  simp only [bS]
  exact ⟨trivial, trivial⟩
theorem TableOf_eq {n : Nat} (hn : n ≤ 6) {x : List E} (hx : okL x) (hl : x.length = 2 ^ n) {k : Nat} (hk : 2000 < k) : impl_TableOf.f k x = some (turnL eadd n x, 0) := by
  have hb : 2 ^ n ≤ 64 := Nat.le_trans (Nat.pow_le_pow_right (by omega) hn) (by decide)
  have e := turnedplus_is hn hx hl (k := k) (by omega)
  unfold impl_TableOf.f impl_turnedTable_plus.f
  rw [if_neg (by omega), impl_TableOK_eq, tableB hn hx hl]
  simp only [bS, if_true]
  rw [e]
  simp only [bS]
theorem dot_l0 (x y : List E) (hx : okL x) (hy : okL y) (hn : x.length = y.length) (hl : x.length ≤ 4096) (d : Nat) : ∀ (k i : Nat) (r : E), i + d = x.length → d < k → okE r →
    impl_dot.l0 k y x (x.length : Int) i r.f0 r.f1 = some ((eadd r (dotL (x.drop i) (y.drop i))).f0, (eadd r (dotL (x.drop i) (y.drop i))).f1) := by
  induction d with
  | zero =>
    intro k i r hi hk hr
    obtain ⟨k, rfl⟩ : ∃ m, k = m + 1 := ⟨k - 1, by omega⟩
    simp only [impl_dot.l0]
    have e : dotL (x.drop i) (y.drop i) = zE := by unfold dotL; rw [List.drop_eq_nil_of_le (show x.length ≤ i by omega)]; rfl
    rw [if_neg (by omega), e, eadd_zero hr]
  | succ d ih =>
    intro k i r hi hk hr
    obtain ⟨k, rfl⟩ : ∃ m, k = m + 1 := ⟨k - 1, by omega⟩
    have hlt : i < x.length := by omega
    have hlt2 : i < y.length := by omega
    have h1 : okE x[i] := hx _ (List.getElem_mem _)
    have h2 : okE y[i] := hy _ (List.getElem_mem _)
    simp only [impl_dot.l0]
    rw [if_pos (show (i : Int) < (x.length : Int) by omega), if_pos (show 0 ≤ (i : Int) by omega), if_pos (show (i : Int) < (x.length : Int) by omega), if_pos (show (i : Int) < (y.length : Int) by omega), rdE_at hlt, rdE_at hlt2, impl_times_eq h1 h2]
    simp only [bS]
    rw [impl_plus_eq hr (ok_mul _ _)]
    simp only [bS]
    rw [w64 (by omega) (by omega), show (i : Int) + 1 = ((i + 1 : Nat) : Int) by omega, ih k (i + 1) _ (by omega) (by omega) (ok_add _ _)]
    have e : dotL (x.drop i) (y.drop i) = eadd (emul x[i] y[i]) (dotL (x.drop (i + 1)) (y.drop (i + 1))) := by unfold dotL; rw [List.drop_eq_getElem_cons hlt, List.drop_eq_getElem_cons hlt2]; rfl
    rw [e, eadd_assoc]
theorem TableAt_eq {n : Nat} (hn : n ≤ 6) {x p : List E} (hx : okL x) (hl : x.length = 2 ^ n) (hp : okL p) (hpn : p.length = n) {k : Nat} (hk : 5000 < k) : impl_TableAt.f k x p = some ((dotL x (eqTab p)).f0, (dotL x (eqTab p)).f1, 0) := by
  obtain ⟨k, rfl⟩ : ∃ m, k = m + 1 + 1 := ⟨k - 2, by omega⟩
  have hb : 2 ^ n ≤ 64 := Nat.le_trans (Nat.pow_le_pow_right (by omega) hn) (by decide)
  have hpt : pointB p = true := by unfold pointB; rw [(okLB_iff p).2 hp, decide_eq_true (by omega)]; rfl
  unfold impl_TableAt.f
  rw [if_neg (by omega), decide_eq_false (by omega)]
  simp only [impl_TableAt.j0, Bool.false_eq_true, if_false]
  rw [impl_TableOK_eq, tableB hn hx hl, isPoint_eq, hpt]
  simp only [bS, if_true, Bool.not_true, impl_TableAt.j1, Bool.false_eq_true, if_false]
  rw [hpn, Go.Proofs.Ytlfnfalckfggkaa.PT.shl_small (by omega), if_pos (by omega), eqTable_eq hp (by omega) (by omega)]
  simp only [bS]
  have e := dot_l0 x (eqTab p) hx (eqTab_ok p) (by rw [eqTab_length, hpn]; exact hl) (by omega) x.length k 0 zE (by omega) (by omega) ok_zero
  unfold impl_dot.f
  have e' : impl_dot.l0 k (eqTab p) x (x.length : Int) 0 0 0 = _ := e
  rw [e', List.drop_zero, List.drop_zero, zero_eadd (show okE (dotL x (eqTab p)) from ok_sum _)]
  simp only [bS]
end Go.Proofs.Ytlfnfalckfggkaa.PT
end
section
/- A table's coefficients turn back into it, and are its polynomial's, monomial by monomial. -/
namespace Go.Proofs.Ytlfnfalckfggkaa.fnCoefs
open Go.Proofs.Ytlfnfalckfggkaa.PT Go.RowKit Go.Proofs.YtlfnfalckfggkaaO Go.Proofs.YtlfnfalckfggkaaW.PrintWords Go.Proofs.YtlfnfalckfggkaaW.PrintLast Go.Proofs.YtlfnfalckfggkaaW.PrintMore
set_option linter.unusedSimpArgs false
theorem bytes_of {l : List Int} (h : ListGood (IntGood .u8) l) : bytesL l := by
  intro x hx
  have e := h.2 x hx
  have e2 : (Lit.int .u8 x).wf = true := e
  simp only [Lit.wf, IntKind.min, IntKind.max, IntKind.signed, IntKind.bits] at e2
  simp at e2
  omega
theorem bit_is0 : ∀ m : Fin 64, ∀ i : Fin 6, (Go.bits .and .i64 (shr .i64 (m.val : Int) (i.val : Int)) 1 == 1) = decide (m.val / 2 ^ i.val % 2 = 1) := by decide +kernel
theorem bit_is {m i : Nat} (hm : m < 64) (hi : i < 6) : Go.bits .and .i64 (shr .i64 (m : Int) (i : Int)) 1 = 1 ↔ m / 2 ^ i % 2 = 1 := by
  have := bit_is0 ⟨m, hm⟩ ⟨i, hi⟩
  simp only at this
  rw [Bool.eq_iff_iff, beq_iff_eq, decide_eq_true_eq] at this
  exact this
theorem law_l1 (n : Nat) (hn : n ≤ 5) (p c : List E) (hp : okL p) (hpn : p.length = n) (m : Nat) (hm : m < 64) (v s : E) (hs : okE s) (d : Nat) : ∀ (k i : Nat) (a : E), i + d = n → d < k → okE a →
    laws_FnCoefs.l1 k (n : Int) p c (m : Int) i v.f0 v.f1 s.f0 s.f1 a.f0 a.f1 = laws_FnCoefs.l0 (k - d - 1) (n : Int) p c ((m + 1 : Nat) : Int) v.f0 v.f1 (eadd s (monF m i (p.drop i) a)).f0 (eadd s (monF m i (p.drop i) a)).f1 := by
  induction d with
  | zero =>
    intro k i a hi hk ha
    obtain ⟨k, rfl⟩ : ∃ m, k = m + 1 := ⟨k - 1, by omega⟩
    simp only [laws_FnCoefs.l1]
    rw [if_neg (by omega), ExtAdd_eq hs ha, List.drop_eq_nil_of_le (by omega)]
    simp only [bS, if_true, monF]
    rw [w64 (by omega) (by omega), show (m : Int) + 1 = ((m + 1 : Nat) : Int) by omega]
    rfl
  | succ d ih =>
    intro k i a hi hk ha
    obtain ⟨k, rfl⟩ : ∃ m, k = m + 1 := ⟨k - 1, by omega⟩
    have hlt : i < p.length := by omega
    have h1 : okE p[i] := hp _ (List.getElem_mem _)
    have hu : IntKind.u64.wrap (i : Int) = (i : Int) := by
      simp only [IntKind.wrap, IntKind.bits, IntKind.signed]; simp; omega
    have e : k + 1 - (d + 1) - 1 = k - d - 1 := by omega
    simp only [laws_FnCoefs.l1]
    rw [if_pos (show (i : Int) < (n : Int) by omega), hu, if_pos (show 0 ≤ (i : Int) by omega), List.drop_eq_getElem_cons hlt, monF, w64 (n := (i : Int) + 1) (by omega) (by omega), show (i : Int) + 1 = ((i + 1 : Nat) : Int) by omega, e]
    by_cases h : m / 2 ^ i % 2 = 1
    · rw [if_pos ((bit_is hm (by omega)).2 h), if_pos h, if_pos (show 0 ≤ (i : Int) by omega), if_pos (show (i : Int) < (p.length : Int) by omega), rdE_at hlt, ExtMul_eq ha h1]
      simp only [bS, if_true]
      exact ih k (i + 1) _ (by omega) (by omega) (ok_mul _ _)
    · rw [if_neg (fun h0 => h ((bit_is hm (by omega)).1 h0)), if_neg h]
      exact ih k (i + 1) a (by omega) (by omega) ha
theorem law_l0 (n : Nat) (hn : n ≤ 5) (p c : List E) (hp : okL p) (hpn : p.length = n) (hc : okL c) (hcl : c.length ≤ 64) (v : E) (d : Nat) : ∀ (k m : Nat) (s : E), m + d = c.length → d * 20 < k → okE s →
    eadd s (sumE (((List.range c.length).drop m).map fun j => monF j 0 p (c.getD j zE))) = v → laws_FnCoefs.l0 k (n : Int) p c m v.f0 v.f1 s.f0 s.f1 = some true := by
  induction d with
  | zero =>
    intro k m s hm hk hs hv
    obtain ⟨k, rfl⟩ : ∃ m, k = m + 1 := ⟨k - 1, by omega⟩
    rw [List.drop_eq_nil_of_le (by rw [List.length_range]; omega), List.map_nil, sumE, eadd_zero hs] at hv
    subst hv
    simp only [laws_FnCoefs.l0]
    rw [if_neg (by omega), beq_self_eq_true, beq_self_eq_true]; rfl
  | succ d ih =>
    intro k m s hm hk hs hv
    obtain ⟨k, rfl⟩ : ∃ m, k = m + 1 := ⟨k - 1, by omega⟩
    have hlt : m < c.length := by omega
    have h1 : okE c[m] := hc _ (List.getElem_mem _)
    simp only [laws_FnCoefs.l0]
    rw [if_pos (show (m : Int) < (c.length : Int) by omega), if_pos (show 0 ≤ (m : Int) by omega), rdE_at hlt]
    have e := law_l1 n hn p c hp hpn m (by omega) v s hs n k 0 c[m] (by omega) (by omega) h1
    rw [Int.natCast_zero, List.drop_zero] at e
    rw [e]
    refine ih (k - n - 1) (m + 1) _ (by omega) (by omega) (ok_add _ _) ?_
    rw [List.drop_eq_getElem_cons (by rw [List.length_range]; exact hlt), List.map_cons, sumE, List.getElem_range, getD_at hlt, ← eadd_assoc] at hv
    exact hv
theorem pureFnCoefs : Pure := by
  intro x y hx hy
  have hbx := bytes_of hx
  have hby := bytes_of hy
  refine ⟨20000 + 1 + 1, ?_⟩
  generalize hK : 20000 = K
  unfold laws_FnCoefs.f
  by_cases h1 : (x.length : Int) > 1048576
  · rw [if_pos h1]; rfl
  rw [if_neg h1]
  by_cases h2 : (y.length : Int) > 1048576
  · rw [decide_eq_true h2]; rfl
  rw [decide_eq_false h2]
  simp only [laws_FnCoefs.j0, Bool.false_eq_true, if_false]
  obtain ⟨nn, en, hn0, hn1⟩ := at_ok hby (by omega) (a := 0) (n := 5) (by omega) (by omega) (by omega) (by omega)
  obtain ⟨n, rfl⟩ := Int.eq_ofNat_of_zero_le hn0
  have hn : n ≤ 4 := by omega
  have hb : 2 ^ n ≤ 16 := Nat.le_trans (Nat.pow_le_pow_right (by omega) hn) (by decide)
  have hu : IntKind.u64.wrap (n : Int) = (n : Int) := by
    simp only [IntKind.wrap, IntKind.bits, IntKind.signed]; simp; omega
  obtain ⟨t, ⟨ht, htl⟩, et⟩ := ExtsOf_ok hbx (2 ^ n) (by omega)
  obtain ⟨p, ⟨hp, hpl⟩, ep⟩ := ExtsOf_ok hby n (by omega)
  have hcl := turnL_length esub n t
  have hco := turnL_ok (f := esub) ok_sub n t ht
  rw [en]
  simp only [bS]
  rw [hu, if_pos hn0, Go.Proofs.Ytlfnfalckfggkaa.PT.shl_small (by omega), et _ (by omega)]
  simp only [bS]
  rw [ep _ (by omega)]
  simp only [bS]
  rw [(CoefsOf_eq (n := n) (by omega) ht htl (by omega)).1, (CoefsOf_eq (n := n) (by omega) ht htl (by omega)).2]
  simp only [bS]
  rw [TableOf_eq (n := n) (by omega) hco (by omega) (by omega), turn_back n t ht htl]
  simp only [bS]
  rw [TableAt_eq (n := n) (by omega) ht htl hp hpl (by omega)]
  simp only [bS, if_true]
  rw [sameExts_refl (by omega) (by omega)]
  simp only [bS, if_true]
  rw [sameExts_refl (by omega) (by omega)]
  have e3 : (((turnL esub n t).length : Int) != (t.length : Int)) = false := by rw [bne_eq_false_iff_eq]; omega
  simp only [bS, if_true, e3, laws_FnCoefs.j1, Bool.false_eq_true, if_false]
  have ev := eval_dot n p t hpl htl ht
  have e := law_l0 n (by omega) p (turnL esub n t) hp hpl hco (by omega) (dotL t (eqTab p)) (turnL esub n t).length K 0 zE (by omega) (by omega) ok_zero (by
    rw [List.drop_zero, zero_eadd (ok_sum _)]; exact ev)
  exact e
end Go.Proofs.Ytlfnfalckfggkaa.fnCoefs
end
