/- Part 3 of the proof of FnExactOpeningSize: what functions compute, shown step by step, and what that says (the claim's last text states the law). -/
import Derived.Test.YtlfnfalckfggkaaProg
import Derived.Test.YtlfnfalckfggkaaWMore
import Derived.Test.YtlfnfalckfggkaaWWords
import Derived.Test.YtlfnfalckfggkaaWLast
import Derived.Test.YtlfnfalckfggkaaWTab
import Derived.Test.YtlfnfalckfggkaaWFour
import Derived.Test.YtlfnfalckfggkaaWQPut
import Derived.Test.YtlfnfalckfggkaaWApart
import Derived.Test.YtlfnfalckfggkaaWArr
import Derived.Test.YtlfnfalckfggkaaWZeros
import Derived.Test.YtlfnfalckfggkaaWFoot
import Derived.Test.YtlfnfalckfggkaaWKept
import Derived.Test.YtlfnfalckfggkaaWShare
import Derived.Test.YtlfnfalckfggkaaWN
import Derived.Test.YtlfnfalckfggkaaWFootNe
import Derived.Test.YtlfnfalckfggkaaWAt
import Derived.Test.YtlfnfalckfggkaaWEqStruct
import Derived.Test.YtlfnfalckfggkaaWRepsOne
import Derived.Test.YtlfnfalckfggkaaWInv
import Derived.Test.YtlfnfalckfggkaaWInvWords
import Derived.Test.YtlfnfalckfggkaaWGuard
import Derived.Test.YtlfnfalckfggkaaWNEv
import Derived.Test.YtlfnfalckfggkaaRows
import Derived.JoinedOf
import Derived.WalkKit
import Derived.ProofKit
import Derived.Below
import Derived.Deep.Draws
import Derived.Deep.AppendLies
import Derived.Maps.AppendAt
import Derived.OwnWalk
import Derived.Laws.BytesArg
import Derived.Laws.MakeOwn
import Derived.Laws.OwnMore
import Derived.Deep.OwnRows
import Derived.Tactics
import Derived.Lib.ConvBytes
import Derived.Laws.Slices
import Derived.KernelRfl
import Derived.RowKit3
import Derived.Deep.LoopGhost
import Derived.Deep.QuietTactic
import Derived.BigQuiet
import Derived.WideLaws
import Derived.Deep.DeepCutAuto
import Derived.Deep.CutBlock
import Derived.Deep.RegionHeld3
import Derived.Laws.Rows
import Derived.Lib.AppendStr
import Derived.ArgAppend
import Derived.Laws.IdiomCopy
import Derived.OrdersHeld
import Derived.Laws.BitsLemmas
import Derived.RowKit
import Derived.OpenShut
import Derived.ShutString
import Derived.ChangeOld
import Derived.SizedLaws
import Derived.Deep.Slices
import Derived.ChangeArms
import Derived.Test.YtlfnfalckfggkaaZFnExactOpeningSize2
section
/- What the printed functions of the field and of the greater field answer: the same sums and products on both sides. -/
namespace Go.Proofs.Ytlfnfalckfggkaa.PT
open Go.RowKit Go.Proofs.YtlfnfalckfggkaaW.PrintWords Go.Proofs.YtlfnfalckfggkaaW.PrintLast Go.Proofs.YtlfnfalckfggkaaW.PrintMore
set_option linter.unusedVariables false
set_option linter.unusedSimpArgs false

theorem impl_in_eq (a b c : Int) : impl_in.f a b c = some (decide (b ≤ a ∧ a ≤ c)) := by
  unfold impl_in.f; by_cases h : b ≤ a <;> simp [h]
theorem spec_l01In_eq (a b c : Int) : spec_l01In.f a b c = some (decide (b ≤ a ∧ a ≤ c)) := by
  unfold spec_l01In.f; by_cases h : b ≤ a <;> simp [h]
theorem impl_FieldOK_eq (a : Int) : impl_FieldOK.f a = some (decide (inF a)) := by
  unfold impl_FieldOK.f; rw [impl_in_eq]; rfl
theorem spec_FieldOK_eq (a : Int) : spec_FieldOK.f a = some (decide (inF a)) := by
  unfold spec_FieldOK.f; rw [spec_l01In_eq]; rfl
def okB (x : E) : Bool := decide (inF x.f0) && decide (inF x.f1)
theorem okB_iff (x : E) : okB x = true ↔ okE x := by
  unfold okB; rw [Bool.and_eq_true, decide_eq_true_eq, decide_eq_true_eq]; exact ⟨fun h => ⟨h.1, h.2⟩, fun h => ⟨h.a, h.b⟩⟩
theorem impl_ExtOK_eq (a b : Int) : impl_ExtOK.f a b = some (okB ⟨a, b⟩) := by
  unfold impl_ExtOK.f okB; rw [impl_FieldOK_eq, impl_FieldOK_eq]
  by_cases h : inF a <;> simp [h]
theorem spec_ExtOK_eq (a b : Int) : spec_ExtOK.f a b = some (okB ⟨a, b⟩) := by
  unfold spec_ExtOK.f okB; rw [spec_FieldOK_eq, spec_FieldOK_eq]
  by_cases h : inF a <;> simp [h]
theorem impl_add_eq {a b : Int} (ha : inF a) (hb : inF b) : impl_add.f a b = some (fadd a b) := by
  unfold inF at ha hb; unfold impl_add.f fadd; rw [w64 (by omega) (by omega), tmod_nn (by omega)]
theorem spec_l01Add_eq {a b : Int} (ha : inF a) (hb : inF b) : spec_l01Add.f a b = some (fadd a b) := by
  unfold inF at ha hb; unfold spec_l01Add.f fadd; rw [w64 (by omega) (by omega), tmod_nn (by omega)]
theorem impl_sub_eq {a b : Int} (ha : inF a) (hb : inF b) : impl_sub.f a b = some (fsub a b) := by
  unfold inF at ha hb; unfold impl_sub.f fsub; rw [w64 (n := a - b) (by omega) (by omega), w64 (by omega) (by omega), tmod_nn (by omega)]
  congr 1; omega
theorem spec_l01Sub_eq {a b : Int} (ha : inF a) (hb : inF b) : spec_l01Sub.f a b = some (fsub a b) := by
  unfold inF at ha hb; unfold spec_l01Sub.f fsub; rw [w64 (n := a + _) (by omega) (by omega), w64 (by omega) (by omega), tmod_nn (by omega)]
  congr 1; omega
theorem impl_mul_eq {a b : Int} (ha : inF a) (hb : inF b) : impl_mul.f a b = some (fmul a b) := by
  have := mul_bd ha hb
  unfold impl_mul.f fmul; rw [w64 (by omega) (by omega), tmod_nn (by omega)]
theorem spec_l01Mul_eq {a b : Int} (ha : inF a) (hb : inF b) : spec_l01Mul.f a b = some (fmul a b) := by
  have := mul_bd ha hb
  unfold spec_l01Mul.f fmul; rw [w64 (by omega) (by omega), tmod_nn (by omega)]
theorem impl_plus_eq {x y : E} (hx : okE x) (hy : okE y) : impl_Ext_plus.f x.f0 x.f1 y.f0 y.f1 = some ((eadd x y).f0, (eadd x y).f1) := by
  unfold impl_Ext_plus.f; rw [impl_add_eq hx.a hy.a, impl_add_eq hx.b hy.b]; rfl
theorem impl_minus_eq {x y : E} (hx : okE x) (hy : okE y) : impl_Ext_minus.f x.f0 x.f1 y.f0 y.f1 = some ((esub x y).f0, (esub x y).f1) := by
  unfold impl_Ext_minus.f; rw [impl_sub_eq hx.a hy.a, impl_sub_eq hx.b hy.b]; rfl
theorem impl_times_eq {x y : E} (hx : okE x) (hy : okE y) : impl_Ext_times.f x.f0 x.f1 y.f0 y.f1 = some ((emul x y).f0, (emul x y).f1) := by
  unfold impl_Ext_times.f
  simp only [impl_mul_eq hx.a hy.a, impl_mul_eq hx.b hy.b, impl_mul_eq hx.a hy.b, impl_mul_eq hx.b hy.a, impl_mul_eq inF_3 (inF_mul _ _), impl_add_eq (inF_mul _ _) (inF_mul _ _), Option.bind_some]
  rfl
theorem impl_scaled_eq {x : E} {n : Int} (hx : okE x) (hn : inF n) : impl_Ext_scaled.f x.f0 x.f1 n = some ((escale x n).f0, (escale x n).f1) := by
  unfold impl_Ext_scaled.f; rw [impl_mul_eq hx.a hn, impl_mul_eq hx.b hn]; rfl
theorem spec_l02Add_eq {x y : E} (hx : okE x) (hy : okE y) : spec_l02Add.f x.f0 x.f1 y.f0 y.f1 = some ((eadd x y).f0, (eadd x y).f1) := by
  unfold spec_l02Add.f; rw [spec_l01Add_eq hx.a hy.a, spec_l01Add_eq hx.b hy.b]; rfl
theorem spec_l02Sub_eq {x y : E} (hx : okE x) (hy : okE y) : spec_l02Sub.f x.f0 x.f1 y.f0 y.f1 = some ((esub x y).f0, (esub x y).f1) := by
  unfold spec_l02Sub.f; rw [spec_l01Sub_eq hx.a hy.a, spec_l01Sub_eq hx.b hy.b]; rfl
theorem spec_l02Mul_eq {x y : E} (hx : okE x) (hy : okE y) : spec_l02Mul.f x.f0 x.f1 y.f0 y.f1 = some ((emul x y).f0, (emul x y).f1) := by
  unfold spec_l02Mul.f
  have h3 : ∀ t, inF t → Int.tmod (wrap64 (3 * t)) 2130706433 = fmul 3 t := by
    intro t ht; unfold inF at ht; unfold fmul; rw [w64 (by omega) (by omega), tmod_nn (by omega)]
  simp only [spec_l01Mul_eq hx.a hy.a, spec_l01Mul_eq hx.b hy.b, spec_l01Mul_eq hx.a hy.b, spec_l01Mul_eq hx.b hy.a, Option.bind_some, h3 _ (inF_mul _ _), spec_l01Add_eq (inF_mul _ _) (inF_mul _ _)]
  rfl
theorem spec_l02Of_eq (n : Int) : spec_l02Of.f n = some ((eof n).f0, (eof n).f1) := rfl
theorem impl_one_eq : impl_one.f = some ((eof 1).f0, (eof 1).f1) := rfl

/-! lists -/
def okL (l : List E) : Prop := ∀ x ∈ l, okE x
def okLB (l : List E) : Bool := l.all okB
theorem okLB_iff (l : List E) : okLB l = true ↔ okL l := by
  unfold okLB okL; rw [List.all_eq_true]; exact ⟨fun h x hx => (okB_iff x).1 (h x hx), fun h x hx => (okB_iff x).2 (h x hx)⟩
theorem okL_get {l : List E} (h : okL l) (i : Nat) (hi : i < l.length) : okE (l.getD i zE) := by
  rw [List.getD_eq_getElem?_getD, List.getElem?_eq_getElem hi]; exact h _ (List.getElem_mem hi)
theorem impl_are_eq (l : List E) : impl_are_Ext_ExtOK.f l = some (okLB l) := by
  unfold impl_are_Ext_ExtOK.f okLB
  congr 2; funext x; unfold impl_are_Ext_ExtOK.p; rw [impl_ExtOK_eq]; rfl
theorem spec_l02List_l0 (l : List E) (hl : l.length ≤ 4611686018427387904) (d : Nat) : ∀ (k i : Nat), i + d = l.length → d < k → spec_l02List.l0 k l i = some ((l.drop i).all okB) := by
  induction d with
  | zero =>
    intro k i hi hk
    obtain ⟨k, rfl⟩ : ∃ m, k = m + 1 := ⟨k - 1, by omega⟩
    simp only [spec_l02List.l0]; rw [if_neg (by omega), List.drop_eq_nil_of_le (by omega)]; rfl
  | succ d ih =>
    intro k i hi hk
    obtain ⟨k, rfl⟩ : ∃ m, k = m + 1 := ⟨k - 1, by omega⟩
    have hlt : i < l.length := by omega
    simp only [spec_l02List.l0]
    rw [if_pos (by omega), if_pos (by omega), spec_ExtOK_eq, List.drop_eq_getElem_cons hlt]
    have hg : rd_T42 l (i : Int) = l[i] := by rw [rdE, Int.toNat_natCast, List.getD_eq_getElem?_getD, List.getElem?_eq_getElem hlt]; rfl
    rw [hg]
    simp only [Option.bind_some, List.all_cons]
    by_cases hb : okB l[i] = true
    · have e : okB ⟨(l[i]).f0, (l[i]).f1⟩ = true := hb
      rw [e, if_pos rfl, w64 (by omega) (by omega), show (i : Int) + 1 = ((i + 1 : Nat) : Int) by omega, ih k (i + 1) (by omega) (by omega)]
      rfl
    · replace hb := Bool.eq_false_iff.mpr hb
      have e : okB ⟨(l[i]).f0, (l[i]).f1⟩ = false := hb
      rw [e]; rfl
theorem spec_l02List_eq {l : List E} (hl : l.length ≤ 4611686018427387904) {k : Nat} (hk : l.length < k) : spec_l02List.f k l = some (okLB l) := by
  have := spec_l02List_l0 l hl l.length k 0 (by omega) hk
  unfold spec_l02List.f; exact this
end Go.Proofs.Ytlfnfalckfggkaa.PT
end
section
/- An opening's size is told alike on both sides. -/
namespace Go.Proofs.Ytlfnfalckfggkaa.fnExactOpeningSize
open Go.Proofs.Ytlfnfalckfggkaa.PT Go.RowKit
theorem size_same (x0 a b c : Int) (k : Nat) : ∀ x5 x8, impl_openingSize.l0 k x0 x5 x0 x8 a b c = spec_l09Size.l0 k x0 x5 x8 a b c := by
  induction k with
  | zero => intro x5 x8; rfl
  | succ k ih => intro x5 x8; simp only [impl_openingSize.l0, spec_l09Size.l0]; rw [ih]
theorem size_some (x0 a b c : Int) (hx : x0 ≤ 6) (d : Nat) : ∀ (k : Nat) (x5 x8 : Int), 0 ≤ x8 → x0 - x8 ≤ d → d < k → ∃ r, spec_l09Size.l0 k x0 x5 x8 a b c = some r := by
  induction d with
  | zero =>
    intro k x5 x8 h0 h1 hk
    obtain ⟨k, rfl⟩ : ∃ m, k = m + 1 := ⟨k - 1, by omega⟩
    simp only [spec_l09Size.l0]; rw [if_neg (by omega)]; exact ⟨_, rfl⟩
  | succ d ih =>
    intro k x5 x8 h0 h1 hk
    obtain ⟨k, rfl⟩ : ∃ m, k = m + 1 := ⟨k - 1, by omega⟩
    simp only [spec_l09Size.l0]
    by_cases h : x8 < x0
    · rw [if_pos h, w64 (n := x8 + 1) (by omega) (by omega)]; exact ih k _ (x8 + 1) (by omega) (by omega) (by omega)
    · rw [if_neg h]; exact ⟨_, rfl⟩
theorem pureFnExactOpeningSize : Pure := by
  intro x0 x _ _
  refine ⟨8, ?_⟩
  unfold laws_FnExactOpeningSize.f laws_toSetting.f spec_OpeningSize.f impl_OpeningSize.f impl_openingCode.f spec_SettingOK.f impl_SettingOK.f spec_l09Size.f impl_openingSize.f
  simp only [impl_in_eq, spec_l01In_eq, Option.bind_some, size_same]
  by_cases h1 : 1 ≤ x.f0 ∧ x.f0 ≤ 3
  · by_cases h2 : 1 ≤ x.f1 ∧ x.f1 ≤ 8
    · by_cases h3 : 0 ≤ x.f2 ∧ x.f2 ≤ 12
      · by_cases h4 : 1 ≤ x0 ∧ x0 ≤ 6
        · obtain ⟨r, hr⟩ := size_some x0 x.f0 x.f1 x.f2 (by omega) 6 8 0 0 (by omega) (by omega) (by omega)
          simp [h1, h2, h3, h4, hr]
        · simp [h1, h2, h3, h4]
      · simp [h1, h2, h3]
    · simp [h1, h2]
  · simp [h1]
end Go.Proofs.Ytlfnfalckfggkaa.fnExactOpeningSize
end
