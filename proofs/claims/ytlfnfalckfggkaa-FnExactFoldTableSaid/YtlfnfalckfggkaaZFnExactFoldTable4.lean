/- Part 4 of the proof of FnExactFoldTable: what functions compute, shown step by step, and what that says (the claim's last text states the law). -/
import Derived.Test.YtlfnfalckfggkaaProg
import Derived.Test.YtlfnfalckfggkaaWMore
import Derived.Test.YtlfnfalckfggkaaWWords
import Derived.Test.YtlfnfalckfggkaaWLast
import Derived.Test.YtlfnfalckfggkaaWTab
import Derived.Test.YtlfnfalckfggkaaWFour
import Derived.Test.YtlfnfalckfggkaaWQPut
import Derived.Test.YtlfnfalckfggkaaWApart
import Derived.Test.YtlfnfalckfggkaaWArr
import Derived.Test.YtlfnfalckfggkaaWZeros
import Derived.Test.YtlfnfalckfggkaaWFoot
import Derived.Test.YtlfnfalckfggkaaWKept
import Derived.Test.YtlfnfalckfggkaaWShare
import Derived.Test.YtlfnfalckfggkaaWN
import Derived.Test.YtlfnfalckfggkaaWFootNe
import Derived.Test.YtlfnfalckfggkaaWAt
import Derived.Test.YtlfnfalckfggkaaWEqStruct
import Derived.Test.YtlfnfalckfggkaaWRepsOne
import Derived.Test.YtlfnfalckfggkaaWInv
import Derived.Test.YtlfnfalckfggkaaWInvWords
import Derived.Test.YtlfnfalckfggkaaWGuard
import Derived.Test.YtlfnfalckfggkaaWNEv
import Derived.Test.YtlfnfalckfggkaaRows
import Derived.JoinedOf
import Derived.WalkKit
import Derived.ProofKit
import Derived.Below
import Derived.Deep.Draws
import Derived.Deep.AppendLies
import Derived.Maps.AppendAt
import Derived.OwnWalk
import Derived.Laws.BytesArg
import Derived.Laws.MakeOwn
import Derived.Laws.OwnMore
import Derived.Deep.OwnRows
import Derived.Tactics
import Derived.Lib.ConvBytes
import Derived.Laws.Slices
import Derived.KernelRfl
import Derived.RowKit3
import Derived.Deep.LoopGhost
import Derived.Deep.QuietTactic
import Derived.BigQuiet
import Derived.WideLaws
import Derived.Deep.DeepCutAuto
import Derived.Deep.CutBlock
import Derived.Deep.RegionHeld3
import Derived.Laws.Rows
import Derived.Lib.AppendStr
import Derived.ArgAppend
import Derived.Laws.IdiomCopy
import Derived.OrdersHeld
import Derived.Laws.BitsLemmas
import Derived.RowKit
import Derived.OpenShut
import Derived.ShutString
import Derived.ChangeOld
import Derived.SizedLaws
import Derived.Deep.Slices
import Derived.ChangeArms
import Derived.Test.YtlfnfalckfggkaaZFnExactFoldTable3
section
/- What the printed functions of the field and of the greater field answer: the same sums and products on both sides. -/
namespace Go.Proofs.Ytlfnfalckfggkaa.PT
open Go.RowKit Go.Proofs.YtlfnfalckfggkaaW.PrintWords Go.Proofs.YtlfnfalckfggkaaW.PrintLast Go.Proofs.YtlfnfalckfggkaaW.PrintMore
set_option linter.unusedVariables false
set_option linter.unusedSimpArgs false

theorem impl_in_eq (a b c : Int) : impl_in.f a b c = some (decide (b ≤ a ∧ a ≤ c)) := by
  unfold impl_in.f; by_cases h : b ≤ a <;> simp [h]
theorem spec_l01In_eq (a b c : Int) : spec_l01In.f a b c = some (decide (b ≤ a ∧ a ≤ c)) := by
  unfold spec_l01In.f; by_cases h : b ≤ a <;> simp [h]
theorem impl_FieldOK_eq (a : Int) : impl_FieldOK.f a = some (decide (inF a)) := by
  unfold impl_FieldOK.f; rw [impl_in_eq]; rfl
theorem spec_FieldOK_eq (a : Int) : spec_FieldOK.f a = some (decide (inF a)) := by
  unfold spec_FieldOK.f; rw [spec_l01In_eq]; rfl
def okB (x : E) : Bool := decide (inF x.f0) && decide (inF x.f1)
theorem okB_iff (x : E) : okB x = true ↔ okE x := by
  unfold okB; rw [Bool.and_eq_true, decide_eq_true_eq, decide_eq_true_eq]; exact ⟨fun h => ⟨h.1, h.2⟩, fun h => ⟨h.a, h.b⟩⟩
theorem impl_ExtOK_eq (a b : Int) : impl_ExtOK.f a b = some (okB ⟨a, b⟩) := by
  unfold impl_ExtOK.f okB; rw [impl_FieldOK_eq, impl_FieldOK_eq]
  by_cases h : inF a <;> simp [h]
theorem spec_ExtOK_eq (a b : Int) : spec_ExtOK.f a b = some (okB ⟨a, b⟩) := by
  unfold spec_ExtOK.f okB; rw [spec_FieldOK_eq, spec_FieldOK_eq]
  by_cases h : inF a <;> simp [h]
theorem impl_add_eq {a b : Int} (ha : inF a) (hb : inF b) : impl_add.f a b = some (fadd a b) := by
  unfold inF at ha hb; unfold impl_add.f fadd; rw [w64 (by omega) (by omega), tmod_nn (by omega)]
theorem spec_l01Add_eq {a b : Int} (ha : inF a) (hb : inF b) : spec_l01Add.f a b = some (fadd a b) := by
  unfold inF at ha hb; unfold spec_l01Add.f fadd; rw [w64 (by omega) (by omega), tmod_nn (by omega)]
theorem impl_sub_eq {a b : Int} (ha : inF a) (hb : inF b) : impl_sub.f a b = some (fsub a b) := by
  unfold inF at ha hb; unfold impl_sub.f fsub; rw [w64 (n := a - b) (by omega) (by omega), w64 (by omega) (by omega), tmod_nn (by omega)]
  congr 1; omega
theorem spec_l01Sub_eq {a b : Int} (ha : inF a) (hb : inF b) : spec_l01Sub.f a b = some (fsub a b) := by
  unfold inF at ha hb; unfold spec_l01Sub.f fsub; rw [w64 (n := a + _) (by omega) (by omega), w64 (by omega) (by omega), tmod_nn (by omega)]
  congr 1; omega
theorem impl_mul_eq {a b : Int} (ha : inF a) (hb : inF b) : impl_mul.f a b = some (fmul a b) := by
  have := mul_bd ha hb
  unfold impl_mul.f fmul; rw [w64 (by omega) (by omega), tmod_nn (by omega)]
theorem spec_l01Mul_eq {a b : Int} (ha : inF a) (hb : inF b) : spec_l01Mul.f a b = some (fmul a b) := by
  have := mul_bd ha hb
  unfold spec_l01Mul.f fmul; rw [w64 (by omega) (by omega), tmod_nn (by omega)]
theorem impl_plus_eq {x y : E} (hx : okE x) (hy : okE y) : impl_Ext_plus.f x.f0 x.f1 y.f0 y.f1 = some ((eadd x y).f0, (eadd x y).f1) := by
  unfold impl_Ext_plus.f; rw [impl_add_eq hx.a hy.a, impl_add_eq hx.b hy.b]; rfl
theorem impl_minus_eq {x y : E} (hx : okE x) (hy : okE y) : impl_Ext_minus.f x.f0 x.f1 y.f0 y.f1 = some ((esub x y).f0, (esub x y).f1) := by
  unfold impl_Ext_minus.f; rw [impl_sub_eq hx.a hy.a, impl_sub_eq hx.b hy.b]; rfl
theorem impl_times_eq {x y : E} (hx : okE x) (hy : okE y) : impl_Ext_times.f x.f0 x.f1 y.f0 y.f1 = some ((emul x y).f0, (emul x y).f1) := by
  unfold impl_Ext_times.f
  simp only [impl_mul_eq hx.a hy.a, impl_mul_eq hx.b hy.b, impl_mul_eq hx.a hy.b, impl_mul_eq hx.b hy.a, impl_mul_eq inF_3 (inF_mul _ _), impl_add_eq (inF_mul _ _) (inF_mul _ _), Option.bind_some]
  rfl
theorem spec_l02Add_eq {x y : E} (hx : okE x) (hy : okE y) : spec_l02Add.f x.f0 x.f1 y.f0 y.f1 = some ((eadd x y).f0, (eadd x y).f1) := by
  unfold spec_l02Add.f; rw [spec_l01Add_eq hx.a hy.a, spec_l01Add_eq hx.b hy.b]; rfl
theorem spec_l02Sub_eq {x y : E} (hx : okE x) (hy : okE y) : spec_l02Sub.f x.f0 x.f1 y.f0 y.f1 = some ((esub x y).f0, (esub x y).f1) := by
  unfold spec_l02Sub.f; rw [spec_l01Sub_eq hx.a hy.a, spec_l01Sub_eq hx.b hy.b]; rfl
theorem spec_l02Mul_eq {x y : E} (hx : okE x) (hy : okE y) : spec_l02Mul.f x.f0 x.f1 y.f0 y.f1 = some ((emul x y).f0, (emul x y).f1) := by
  unfold spec_l02Mul.f
  have h3 : ∀ t, inF t → Int.tmod (wrap64 (3 * t)) 2130706433 = fmul 3 t := by
    intro t ht; unfold inF at ht; unfold fmul; rw [w64 (by omega) (by omega), tmod_nn (by omega)]
  simp only [spec_l01Mul_eq hx.a hy.a, spec_l01Mul_eq hx.b hy.b, spec_l01Mul_eq hx.a hy.b, spec_l01Mul_eq hx.b hy.a, Option.bind_some, h3 _ (inF_mul _ _), spec_l01Add_eq (inF_mul _ _) (inF_mul _ _)]
  rfl
/-! lists -/
def okL (l : List E) : Prop := ∀ x ∈ l, okE x
def okLB (l : List E) : Bool := l.all okB
theorem okLB_iff (l : List E) : okLB l = true ↔ okL l := by
  unfold okLB okL; rw [List.all_eq_true]; exact ⟨fun h x hx => (okB_iff x).1 (h x hx), fun h x hx => (okB_iff x).2 (h x hx)⟩
theorem okL_get {l : List E} (h : okL l) (i : Nat) (hi : i < l.length) : okE (l.getD i zE) := by
  rw [List.getD_eq_getElem?_getD, List.getElem?_eq_getElem hi]; exact h _ (List.getElem_mem hi)
theorem impl_are_eq (l : List E) : impl_are_Ext_ExtOK.f l = some (okLB l) := by
  unfold impl_are_Ext_ExtOK.f okLB
  congr 2; funext x; unfold impl_are_Ext_ExtOK.p; rw [impl_ExtOK_eq]; rfl
theorem spec_l02List_l0 (l : List E) (hl : l.length ≤ 4611686018427387904) (d : Nat) : ∀ (k i : Nat), i + d = l.length → d < k → spec_l02List.l0 k l i = some ((l.drop i).all okB) := by
  induction d with
  | zero =>
    intro k i hi hk
    obtain ⟨k, rfl⟩ : ∃ m, k = m + 1 := ⟨k - 1, by omega⟩
    simp only [spec_l02List.l0]; rw [if_neg (by omega), List.drop_eq_nil_of_le (by omega)]; rfl
  | succ d ih =>
    intro k i hi hk
    obtain ⟨k, rfl⟩ : ∃ m, k = m + 1 := ⟨k - 1, by omega⟩
    have hlt : i < l.length := by omega
    simp only [spec_l02List.l0]
    rw [if_pos (by omega), if_pos (by omega), spec_ExtOK_eq, List.drop_eq_getElem_cons hlt]
    have hg : rd_T42 l (i : Int) = l[i] := by rw [rdE, Int.toNat_natCast, List.getD_eq_getElem?_getD, List.getElem?_eq_getElem hlt]; rfl
    rw [hg]
    simp only [Option.bind_some, List.all_cons]
    by_cases hb : okB l[i] = true
    · have e : okB ⟨(l[i]).f0, (l[i]).f1⟩ = true := hb
      rw [e, if_pos rfl, w64 (by omega) (by omega), show (i : Int) + 1 = ((i + 1 : Nat) : Int) by omega, ih k (i + 1) (by omega) (by omega)]
      rfl
    · replace hb := Bool.eq_false_iff.mpr hb
      have e : okB ⟨(l[i]).f0, (l[i]).f1⟩ = false := hb
      rw [e]; rfl
theorem spec_l02List_eq {l : List E} (hl : l.length ≤ 4611686018427387904) {k : Nat} (hk : l.length < k) : spec_l02List.f k l = some (okLB l) := by
  have := spec_l02List_l0 l hl l.length k 0 (by omega) hk
  unfold spec_l02List.f; exact this
end Go.Proofs.Ytlfnfalckfggkaa.PT
end
section
/- The laws' own helpers: elements copied, compared, marked; and powers of two. -/
namespace Go.Proofs.Ytlfnfalckfggkaa.PT
open Go.RowKit Go.Proofs.YtlfnfalckfggkaaW.PrintWords Go.Proofs.YtlfnfalckfggkaaW.PrintLast Go.Proofs.YtlfnfalckfggkaaW.PrintMore
set_option linter.unusedVariables false
set_option linter.unusedSimpArgs false

theorem szExtS_big {l : List LE} {a : Int} (ha : 0 ≤ a) (ha2 : a ≤ 1048576) (hl : l.length ≤ 9223372036854775807) (h : a < l.length) : laws_szExtS.f l a = some (-1) := by
  unfold laws_szExtS.f; rw [w64 (by omega) (by omega), if_pos (by omega)]
theorem szExtS_fit {l : List LE} {a : Int} (ha2 : a ≤ 1048576) (h : (l.length : Int) ≤ a) : laws_szExtS.f l a = some (a - l.length) := by
  unfold laws_szExtS.f; rw [w64 (by omega) (by omega), if_neg (by omega)]
def conv (x : LE) : E := ⟨x.f0, x.f1⟩
def convL (l : List LE) : List E := l.map conv
theorem convL_length (l : List LE) : (convL l).length = l.length := by simp [convL]
theorem getD_at {α : Type} {l : List α} {z : α} {i : Nat} (h : i < l.length) : l.getD i z = l[i] := by
  rw [List.getD_eq_getElem?_getD, List.getElem?_eq_getElem h]; rfl
theorem rdE_at {l : List E} {i : Nat} (h : i < l.length) : rd_T42 l (i : Int) = l[i] := by rw [rdE, Int.toNat_natCast, getD_at h]
theorem rdL_at {l : List LE} {i : Nat} (h : i < l.length) : rd_T51 l (i : Int) = l[i] := by rw [rdL, Int.toNat_natCast, getD_at h]
theorem set_mid {α : Type} (a b : List α) (x y : α) : (a ++ x :: b).set a.length y = a ++ y :: b := by
  rw [List.set_append_right _ _ (Nat.le_refl _)]; simp
theorem toExtS_l0 (l : List LE) (hl : l.length ≤ 4611686018427387904) (d : Nat) : ∀ (k i : Nat), i + d = l.length → d < k →
    laws_toExtS.l0 k l (convL (l.take i) ++ List.replicate d z42) i = some (convL l) := by
  induction d with
  | zero =>
    intro k i hi hk
    obtain ⟨k, rfl⟩ : ∃ m, k = m + 1 := ⟨k - 1, by omega⟩
    simp only [laws_toExtS.l0]; rw [if_neg (by omega), List.take_of_length_le (by omega)]; simp
  | succ d ih =>
    intro k i hi hk
    obtain ⟨k, rfl⟩ : ∃ m, k = m + 1 := ⟨k - 1, by omega⟩
    have hlt : i < l.length := by omega
    have hlen : (convL (l.take i)).length = i := by rw [convL_length, List.length_take]; omega
    simp only [laws_toExtS.l0]
    rw [if_pos (by omega), if_pos (by omega), rdL_at hlt]
    simp only [laws_toExt.f, Option.bind_some]
    rw [if_pos (by rw [List.length_append, hlen, List.length_replicate]; omega), Int.toNat_natCast, List.replicate_succ]
    have hs := set_mid (convL (l.take i)) (List.replicate d z42) z42 (conv l[i])
    rw [hlen] at hs
    show laws_toExtS.l0 k l ((convL (l.take i) ++ z42 :: List.replicate d z42).set i (conv l[i])) _ = _
    rw [hs, w64 (by omega) (by omega), show (i : Int) + 1 = ((i + 1 : Nat) : Int) by omega]
    have := ih k (i + 1) (by omega) (by omega)
    rw [List.take_succ_eq_append_getElem hlt] at this
    simp only [convL, List.map_append, List.map_cons, List.map_nil, List.append_assoc, List.cons_append, List.nil_append] at this
    exact this
theorem toExtS_eq {l : List LE} (hl : l.length ≤ 1048576) {k : Nat} (hk : l.length < k) : laws_toExtS.f k l = some (convL l) := by
  unfold laws_toExtS.f
  rw [if_pos (by omega), if_pos (by simp; omega)]
  have := toExtS_l0 l (by omega) l.length k 0 (by omega) hk
  simpa [convL] using this
theorem eqExt_eq (x y : E) : laws_eqExt.f x.f0 x.f1 y.f0 y.f1 = some (decide (x = y)) := by
  unfold laws_eqExt.f
  by_cases h0 : x.f0 = y.f0
  · by_cases h1 : x.f1 = y.f1
    · rw [if_pos h0, if_pos h1, decide_eq_true (E.ext_ h0 h1)]
    · rw [if_pos h0, if_neg h1, decide_eq_false (fun e => h1 (by rw [e]))]
  · rw [if_neg h0, decide_eq_false (fun e => h0 (by rw [e]))]
theorem eqExtS_l0 (a : List E) (hl : a.length ≤ 4611686018427387904) (d : Nat) : ∀ (k i : Nat), i + d = a.length → d < k → laws_eqExtS.l0 k a a i = some true := by
  induction d with
  | zero =>
    intro k i hi hk
    obtain ⟨k, rfl⟩ : ∃ m, k = m + 1 := ⟨k - 1, by omega⟩
    simp only [laws_eqExtS.l0]; rw [if_neg (by omega)]
  | succ d ih =>
    intro k i hi hk
    obtain ⟨k, rfl⟩ : ∃ m, k = m + 1 := ⟨k - 1, by omega⟩
    simp only [laws_eqExtS.l0]
    rw [if_pos (by omega), if_pos (by omega), if_pos (by omega), eqExt_eq]
    simp only [Option.bind_some, decide_true, if_true]
    rw [w64 (by omega) (by omega), show (i : Int) + 1 = ((i + 1 : Nat) : Int) by omega]
    exact ih k (i + 1) (by omega) (by omega)
theorem eqExtS_refl {a : List E} (hl : a.length ≤ 4611686018427387904) {k : Nat} (hk : a.length < k) : laws_eqExtS.f k a a = some true := by
  unfold laws_eqExtS.f; rw [if_pos rfl]; exact eqExtS_l0 a hl a.length k 0 (by omega) hk

/-! marks: a list's cells are numbered from k on -/
def marked : Nat → Int → List E
  | 0, _ => []
  | n + 1, k => ⟨k, k + 1⟩ :: marked n (k + 2)
theorem marked_length (n : Nat) (k : Int) : (marked n k).length = n := by
  induction n generalizing k with
  | zero => rfl
  | succ n ih => simp [marked, ih]
theorem marked_snoc (n : Nat) (k : Int) : marked (n + 1) k = marked n k ++ [⟨k + 2 * n, k + 2 * n + 1⟩] := by
  induction n generalizing k with
  | zero => simp [marked]
  | succ n ih =>
    rw [marked, ih, marked, List.cons_append]
    have e : k + 2 + 2 * (n : Int) = k + 2 * ((n : Int) + 1) := by omega
    rw [Int.natCast_succ, e]
theorem marked_get (n : Nat) (k : Int) (i : Nat) (h : i < (marked n k).length) : (marked n k)[i] = ⟨k + 2 * i, k + 2 * i + 1⟩ := by
  induction n generalizing k i with
  | zero => simp [marked] at h
  | succ n ih =>
    cases i with
    | zero => simp [marked]
    | succ i =>
      simp only [marked, List.getElem_cons_succ]
      rw [ih]
      have e : k + 2 + 2 * (i : Int) = k + 2 * ((i + 1 : Nat) : Int) := by omega
      rw [e]
theorem markExtS_l0 (a : List E) (k0 : Int) (hk0 : 0 ≤ k0) (hk1 : k0 ≤ 4611686018427387904) (hl : a.length ≤ 1152921504606846976) (d : Nat) : ∀ (k i : Nat), i + d = a.length → d < k →
    laws_markExtS.l0 k (marked i k0 ++ a.drop i) (k0 + 2 * i) i = some (k0 + 2 * a.length, marked a.length k0) := by
  induction d with
  | zero =>
    intro k i hi hk
    obtain ⟨k, rfl⟩ : ∃ m, k = m + 1 := ⟨k - 1, by omega⟩
    have : i = a.length := by omega
    subst this
    simp only [laws_markExtS.l0]
    rw [if_neg (by rw [List.length_append, marked_length, List.length_drop]; omega)]; simp
  | succ d ih =>
    intro k i hi hk
    obtain ⟨k, rfl⟩ : ∃ m, k = m + 1 := ⟨k - 1, by omega⟩
    have hlt : i < a.length := by omega
    simp only [laws_markExtS.l0]
    rw [if_pos (by rw [List.length_append, marked_length, List.length_drop]; omega), if_pos (by omega)]
    simp only [Option.bind_some, Int.toNat_natCast]
    rw [List.drop_eq_getElem_cons hlt]
    have hs := fun y => set_mid (marked i k0) (a.drop (i + 1)) a[i] y
    have hs2 := fun x y => set_mid (marked i k0) (a.drop (i + 1)) x y
    rw [marked_length] at hs hs2
    rw [hs, hs2]
    have hr : ∀ x : E, rd_T42 (marked i k0 ++ x :: a.drop (i + 1)) (i : Int) = x := by
      intro x
      rw [rdE, Int.toNat_natCast, List.getD_eq_getElem?_getD, List.getElem?_append_right (by rw [marked_length]; omega), marked_length, Nat.sub_self]; rfl
    rw [hr]
    rw [w64 (n := k0 + 2 * (i : Int) + 1) (by omega) (by omega), w64 (by omega) (by omega), w64 (by omega) (by omega), show (i : Int) + 1 = ((i + 1 : Nat) : Int) by omega]
    have := ih k (i + 1) (by omega) (by omega)
    rw [marked_snoc, List.append_assoc] at this
    rw [show k0 + 2 * (i : Int) + 1 + 1 = k0 + 2 * ((i + 1 : Nat) : Int) by omega]
    exact this
theorem markExtS_eq {a : List E} {k0 : Int} (hk0 : 0 ≤ k0) (hk1 : k0 ≤ 4611686018427387904) (hl : a.length ≤ 1152921504606846976) {k : Nat} (hk : a.length < k) :
    laws_markExtS.f k a k0 = some (k0 + 2 * a.length, marked a.length k0) := by
  have := markExtS_l0 a k0 hk0 hk1 hl a.length k 0 (by omega) hk
  unfold laws_markExtS.f
  simpa [marked] using this
theorem heldExtS_l0 (n : Nat) (k0 : Int) (hk0 : 0 ≤ k0) (hk1 : k0 ≤ 4611686018427387904) (hl : n ≤ 1152921504606846976) (d : Nat) : ∀ (k i : Nat), i + d = n → d < k →
    laws_heldExtS.l0 k (marked n k0) (k0 + 2 * i) i = some (k0 + 2 * n) := by
  induction d with
  | zero =>
    intro k i hi hk
    obtain ⟨k, rfl⟩ : ∃ m, k = m + 1 := ⟨k - 1, by omega⟩
    have : i = n := by omega
    subst this
    simp only [laws_heldExtS.l0]
    rw [if_neg (by rw [marked_length]; omega)]
  | succ d ih =>
    intro k i hi hk
    obtain ⟨k, rfl⟩ : ∃ m, k = m + 1 := ⟨k - 1, by omega⟩
    have hlt : i < (marked n k0).length := by rw [marked_length]; omega
    simp only [laws_heldExtS.l0]
    rw [if_pos (by rw [marked_length]; omega), if_pos (by omega), rdE_at hlt, marked_get, if_pos rfl, w64 (n := k0 + 2 * (i : Int) + 1) (by omega) (by omega), if_pos rfl,
      w64 (by omega) (by omega), w64 (by omega) (by omega), show (i : Int) + 1 = ((i + 1 : Nat) : Int) by omega, show k0 + 2 * (i : Int) + 1 + 1 = k0 + 2 * ((i + 1 : Nat) : Int) by omega]
    exact ih k (i + 1) (by omega) (by omega)
theorem heldExtS_eq {n : Nat} {k0 : Int} (hk0 : 0 ≤ k0) (hk1 : k0 ≤ 4611686018427387904) (hl : n ≤ 1152921504606846976) {k : Nat} (hk : n < k) :
    laws_heldExtS.f k (marked n k0) k0 = some (k0 + 2 * n) := by
  have := heldExtS_l0 n k0 hk0 hk1 hl n k 0 (by omega) hk
  unfold laws_heldExtS.f
  simpa using this

/-! powers of two -/
def pow2B (n most : Int) : Bool := decide (n ≤ most) && (n == 1 || n == 2 || n == 4 || n == 8 || n == 16 || n == 32 || n == 64 || n == 128 || n == 256 || n == 512)
theorem and_small : ∀ n : Fin 513, 0 < n.val → ((Go.bits .and .i64 (n.val : Int) ((n.val : Int) - 1)) == 0) = pow2B n.val 512 := by decide +kernel
theorem impl_isPower_eq {n most : Int} (hm : most ≤ 512) : impl_isPower.f n most = some (pow2B n most) := by
  unfold impl_isPower.f
  rw [impl_in_eq]
  simp only [Option.bind_some]
  by_cases h : 1 ≤ n ∧ n ≤ most
  · rw [decide_eq_true h, if_pos rfl, w64 (by omega) (by omega)]
    have := and_small ⟨n.toNat, by omega⟩ (by show 0 < n.toNat; omega)
    simp only [Int.toNat_of_nonneg (show 0 ≤ n by omega)] at this
    rw [this]
    unfold pow2B
    rw [decide_eq_true h.2, decide_eq_true (show n ≤ 512 by omega)]
  · rw [decide_eq_false h, if_neg (by decide)]
    congr 1
    symm
    unfold pow2B
    by_cases h2 : n ≤ most
    · have : n < 1 := by omega
      have e : ∀ m : Int, 1 ≤ m → (n == m) = false := fun m hm => beq_eq_false_iff_ne.2 (by omega)
      simp [e]
    · rw [decide_eq_false h2]; rfl
def pw (n most : Int) : Nat → Int → Bool
  | 0, _ => false
  | r + 1, x => (decide (x ≤ most) && (n == x)) || (decide (x ≤ most) && pw n most r (x * 2))
theorem l04Power_l0 (n most : Int) (hm : most ≤ 512) (r : Nat) : ∀ (k : Nat) (x : Int), 0 < x → most < x * 2 ^ r → r < k → spec_l04Power.l0 k n most x = some (pw n most r x) := by
  induction r with
  | zero =>
    intro k x hx h hk
    obtain ⟨k, rfl⟩ : ∃ m, k = m + 1 := ⟨k - 1, by omega⟩
    simp only [spec_l04Power.l0]; rw [if_neg (by simp at h; omega)]; rfl
  | succ r ih =>
    intro k x hx h hk
    obtain ⟨k, rfl⟩ : ∃ m, k = m + 1 := ⟨k - 1, by omega⟩
    simp only [spec_l04Power.l0, pw]
    by_cases h1 : x ≤ most
    · rw [if_pos h1, decide_eq_true h1]
      by_cases h2 : n = x
      · rw [if_pos h2, beq_iff_eq.2 h2]; rfl
      · rw [if_neg h2, beq_eq_false_iff_ne.2 h2, w64 (by omega) (by omega), ih k (x * 2) (by omega) (by rw [Int.pow_succ] at h; rw [Int.mul_assoc, Int.mul_comm 2]; exact h) (by omega)]; simp
    · rw [if_neg h1, decide_eq_false h1]; rfl
theorem pw_eq {n most : Int} (hm : most ≤ 512) : pw n most 10 1 = pow2B n most := by
  rw [Bool.eq_iff_iff]
  simp only [pw, pow2B, Bool.or_eq_true, Bool.and_eq_true, decide_eq_true_eq, beq_iff_eq]
  simp
  omega
theorem spec_l04Power_eq {n most : Int} (hm : most ≤ 512) {k : Nat} (hk : 10 < k) : spec_l04Power.f k n most = some (pow2B n most) := by
  unfold spec_l04Power.f
  rw [l04Power_l0 n most hm 10 k 1 (by omega) (by omega) hk, pw_eq hm]
theorem spec_l06Table_eq {n : Int} {k : Nat} (hk : 10 < k) : spec_l06Table.f k n = some (pow2B n 64) := by
  unfold spec_l06Table.f; rw [spec_l04Power_eq (by omega) hk]; rfl
end Go.Proofs.Ytlfnfalckfggkaa.PT
end
section
/- Steps that several laws share: same answers compared, lists turned in place. -/
namespace Go.Proofs.Ytlfnfalckfggkaa.PT
open Go.RowKit Go.Proofs.YtlfnfalckfggkaaW.PrintWords Go.Proofs.YtlfnfalckfggkaaW.PrintLast Go.Proofs.YtlfnfalckfggkaaW.PrintMore
set_option linter.unusedVariables false
set_option linter.unusedSimpArgs false
/-- A step with its answer known, as a rewriting (no unfolding in the kernel). -/
theorem bS {α β : Type} (a : α) (f : α → Option β) : (some a).bind f = f a := Eq.trans (Eq.refl _) (Option.bind_some a f)
theorem toExt_eq (a b : Int) : laws_toExt.f a b = some (a, b) := rfl
theorem okL_rd {l : List E} (h : okL l) {i : Int} (hi : 0 ≤ i) (hl : i < l.length) : okE (rd_T42 l i) := okL_get h i.toNat (by omega)
theorem okL_app {l m : List E} (h : okL l) (h2 : okL m) : okL (l ++ m) := by
  intro y hy
  rcases List.mem_append.mp hy with h1 | h1
  · exact h y h1
  · exact h2 y h1
theorem okL_one {x : E} (hx : okE x) : okL [x] := by intro y hy; rw [List.mem_singleton.mp hy]; exact hx
theorem okL_nil : okL [] := by intro y hy; cases hy
theorem pow2B_64 {n : Int} (h : pow2B n 64 = true) : n = 1 ∨ n = 2 ∨ n = 4 ∨ n = 8 ∨ n = 16 ∨ n = 32 ∨ n = 64 := by
  unfold pow2B at h
  simp only [Bool.and_eq_true, Bool.or_eq_true, decide_eq_true_eq, beq_iff_eq] at h
  omega
end Go.Proofs.Ytlfnfalckfggkaa.PT
end
section
/- The equality weight, at a point and as a table: both sides walk the same numbers. -/
namespace Go.Proofs.Ytlfnfalckfggkaa.PT
open Go.RowKit Go.Proofs.YtlfnfalckfggkaaW.PrintWords Go.Proofs.YtlfnfalckfggkaaW.PrintLast Go.Proofs.YtlfnfalckfggkaaW.PrintMore
set_option linter.unusedVariables false
set_option linter.unusedSimpArgs false
/-! the table -/
theorem etaE (x : E) : (⟨x.f0, x.f1⟩ : E) = x := rfl
end Go.Proofs.Ytlfnfalckfggkaa.PT
end
section
/- Tables turned in place, folded, and read at a point: both sides walk the same numbers. -/
namespace Go.Proofs.Ytlfnfalckfggkaa.PT
open Go.RowKit Go.Proofs.YtlfnfalckfggkaaW.PrintWords Go.Proofs.YtlfnfalckfggkaaW.PrintLast Go.Proofs.YtlfnfalckfggkaaW.PrintMore
set_option linter.unusedVariables false
set_option linter.unusedSimpArgs false
theorem spec_TableOK_eq {l : List E} (hl : l.length ≤ 1048576) {k : Nat} (hk : l.length + 20 < k) : spec_TableOK.f k l = some (pow2B l.length 64 && okLB l) := by
  unfold spec_TableOK.f
  by_cases h2 : (l.length : Int) > 4096
  · rw [if_pos h2]; congr 1; symm
    have : pow2B (l.length : Int) 64 = false := by unfold pow2B; rw [decide_eq_false (by omega)]; rfl
    rw [this]; rfl
  · rw [if_neg h2, spec_l06Table_eq (by omega), spec_l02List_eq (by omega) (by omega)]
    cases pow2B (l.length : Int) 64 <;> simp
theorem impl_TableOK_eq (l : List E) : impl_TableOK.f l = some (pow2B l.length 64 && okLB l) := by
  unfold impl_TableOK.f
  rw [impl_isPower_eq (by omega), impl_are_eq]
  cases pow2B (l.length : Int) 64 <;> simp
/-! a table turned in place -/
/-! a table folded -/
theorem between_eq {x y z : E} (hx : okE x) (hy : okE y) (hz : okE z) : impl_between.f x.f0 x.f1 y.f0 y.f1 z.f0 z.f1 = some ((eadd x (emul z (esub y x))).f0, (eadd x (emul z (esub y x))).f1) := by
  unfold impl_between.f
  rw [impl_minus_eq hy hx]
  simp only [bS]
  rw [impl_times_eq hz (ok_sub _ _)]
  simp only [bS]
  rw [impl_plus_eq hx (ok_mul _ _)]
  rfl
theorem fold_l0 (x0 : List E) (h0 : okL x0) (hn : x0.length ≤ 4096) (z : E) (hz : okE z) (d : Nat) : ∀ (i : Nat) (a : List E), i + 2 * d = x0.length → a.length ≤ i → okL a →
    ∃ q, (okL q ∧ q.length = a.length + d) ∧ ∀ k, d < k → spec_l06Fold.l0 k x0 a i z.f0 z.f1 = some q ∧ impl_foldTable.l0 k x0 a i z.f0 z.f1 = some q := by
  induction d with
  | zero =>
    intro i a hi ha hoa
    refine ⟨a, ⟨hoa, rfl⟩, fun k hk => ?_⟩
    obtain ⟨k, rfl⟩ : ∃ m, k = m + 1 := ⟨k - 1, by omega⟩
    simp only [spec_l06Fold.l0, impl_foldTable.l0]
    rw [if_neg (by omega), if_neg (by omega)]; exact ⟨rfl, rfl⟩
  | succ d ih =>
    intro i a hi ha hoa
    have w1 : wrap64 ((i : Int) + 1) = (i : Int) + 1 := w64 (by omega) (by omega)
    have w2 : wrap64 ((i : Int) + 2) = ((i + 2 : Nat) : Int) := by rw [w64 (by omega) (by omega)]; omega
    have h1 : okE (rd_T42 x0 i) := okL_rd h0 (by omega) (by omega)
    have h2 : okE (rd_T42 x0 ((i : Int) + 1)) := okL_rd h0 (by omega) (by omega)
    obtain ⟨q, hq, h⟩ := ih (i + 2) (a ++ [eadd (rd_T42 x0 i) (emul z (esub (rd_T42 x0 ((i : Int) + 1)) (rd_T42 x0 i)))]) (by omega) (by simp; omega) (okL_app hoa (okL_one (ok_add _ _)))
    refine ⟨q, ⟨hq.1, by rw [hq.2]; simp; omega⟩, fun k hk => ?_⟩
    obtain ⟨k, rfl⟩ : ∃ m, k = m + 1 := ⟨k - 1, by omega⟩
    simp only [spec_l06Fold.l0, impl_foldTable.l0]
    rw [w1, w2, if_pos (by omega), if_pos (by omega), if_pos (by omega), if_pos (by omega), if_pos (by omega), if_pos (by omega), if_pos (by omega), if_pos (by omega)]
    rw [spec_l02Sub_eq h2 h1, between_eq h1 h2 hz]
    simp only [bS]
    rw [spec_l02Mul_eq hz (ok_sub _ _), if_pos (by omega)]
    simp only [bS]
    rw [spec_l02Add_eq h1 (ok_mul _ _)]
    simp only [bS]
    rw [if_pos (by omega)]
    exact h k (by omega)
theorem fold_same {x0 : List E} (h0 : okL x0) {d : Nat} (hd : 2 * d = x0.length) (hn : x0.length ≤ 4096) {z : E} (hz : okE z) :
    ∃ q, (okL q ∧ q.length = d) ∧ ∀ k, d < k → spec_l06Fold.f k x0 z.f0 z.f1 = some q ∧ impl_foldTable.f k x0 z.f0 z.f1 = some q := by
  unfold spec_l06Fold.f impl_foldTable.f
  obtain ⟨q, hq, h⟩ := fold_l0 x0 h0 hn z hz d 0 [] (by omega) (by simp) okL_nil
  exact ⟨q, ⟨hq.1, by rw [hq.2]; simp⟩, h⟩
/-! a table at a point -/
end Go.Proofs.Ytlfnfalckfggkaa.PT
end
section
/- A table folded at an element, alike on both sides, held apart and untouched. -/
namespace Go.Proofs.Ytlfnfalckfggkaa.fnExactFoldTable
open Go.Proofs.Ytlfnfalckfggkaa.PT Go.RowKit Go.Proofs.YtlfnfalckfggkaaO Go.Proofs.YtlfnfalckfggkaaW.PrintWords Go.Proofs.YtlfnfalckfggkaaW.PrintLast Go.Proofs.YtlfnfalckfggkaaW.PrintMore
set_option linter.unusedSimpArgs false
theorem same (l : List E) (z : E) (hl : l.length ≤ 1048576) : ∃ (B : Nat) (r : List E × Int), B ≤ 100000 ∧ r.1.length ≤ 4096 ∧ ∀ k, l.length + 5000 + B ≤ k → spec_FoldTable.f k l z.f0 z.f1 = some r ∧ impl_FoldTable.f k l z.f0 z.f1 = some r := by
  by_cases h : (l.length : Int) > 4096
  · refine ⟨0, ([], 2), by omega, by simp, fun k hk => ?_⟩
    unfold spec_FoldTable.f impl_FoldTable.f
    rw [if_pos h, if_pos h]; exact ⟨rfl, rfl⟩
  · by_cases ho : (pow2B l.length 64 && okLB l) = true
    · have hok : okL l := (okLB_iff l).1 (by rw [Bool.and_eq_true] at ho; exact ho.2)
      have hp := pow2B_64 (by rw [Bool.and_eq_true] at ho; exact ho.1)
      by_cases hz : okB z = true
      · have hz' := (okB_iff z).1 hz
        by_cases h1 : l.length = 1
        · refine ⟨0, ([], 8), by omega, by simp, fun k hk => ?_⟩
          obtain ⟨k, rfl⟩ : ∃ m, k = m + 1 := ⟨k - 1, by omega⟩
          unfold spec_FoldTable.f impl_FoldTable.f
          rw [if_neg h, if_neg h, spec_TableOK_eq (by omega) (by omega), impl_TableOK_eq, ho, spec_ExtOK_eq, impl_ExtOK_eq, etaE, hz]
          simp only [bS, if_true, Bool.not_true, spec_FoldTable.j0, impl_FoldTable.j0, Bool.false_eq_true, if_false]
          rw [if_pos (by omega), if_pos (by omega)]; exact ⟨rfl, rfl⟩
        · obtain ⟨q, hq, hk3⟩ := fold_same hok (d := l.length / 2) (by omega) (by omega) hz'
          refine ⟨0, (q, 0), by omega, by show q.length ≤ 4096; omega, fun k hk => ?_⟩
          obtain ⟨k, rfl⟩ : ∃ m, k = m + 1 := ⟨k - 1, by omega⟩
          obtain ⟨e1, e2⟩ := hk3 k (by omega)
          unfold spec_FoldTable.f impl_FoldTable.f
          rw [if_neg h, if_neg h, spec_TableOK_eq (by omega) (by omega), impl_TableOK_eq, ho, spec_ExtOK_eq, impl_ExtOK_eq, etaE, hz]
          simp only [bS, if_true, Bool.not_true, spec_FoldTable.j0, impl_FoldTable.j0, Bool.false_eq_true, if_false]
          rw [if_neg (by omega), if_neg (by omega), e1, e2]; exact ⟨rfl, rfl⟩
      · refine ⟨0, ([], 1), by omega, by simp, fun k hk => ?_⟩
        obtain ⟨k, rfl⟩ : ∃ m, k = m + 1 := ⟨k - 1, by omega⟩
        unfold spec_FoldTable.f impl_FoldTable.f
        rw [if_neg h, if_neg h, spec_TableOK_eq (by omega) (by omega), impl_TableOK_eq, ho, spec_ExtOK_eq, impl_ExtOK_eq, etaE, Bool.eq_false_iff.mpr hz]
        simp only [bS, if_true, Bool.not_false, spec_FoldTable.j0, impl_FoldTable.j0]
        constructor <;> first | rfl | trivial
    · refine ⟨0, ([], 1), by omega, by simp, fun k hk => ?_⟩
      obtain ⟨k, rfl⟩ : ∃ m, k = m + 1 := ⟨k - 1, by omega⟩
      unfold spec_FoldTable.f impl_FoldTable.f
      rw [if_neg h, if_neg h, spec_TableOK_eq (by omega) (by omega), impl_TableOK_eq]
      simp only [bS]
      rw [if_neg ho, if_neg ho]
      simp only [spec_FoldTable.j0, impl_FoldTable.j0, if_true]
      constructor <;> first | rfl | trivial
theorem pureFnExactFoldTable : Pure := by
  intro x y hx _
  by_cases h : (x.length : Int) ≤ 1048576
  · have hl := convL_length x
    obtain ⟨B, r, hB, hr, hsame⟩ := same (convL x) (conv y) (by omega)
    refine ⟨(x.length + 5000 + B) + 1 + 1 + 1, ?_⟩
    unfold laws_FnExactFoldTable.f
    generalize hK : x.length + 5000 + B = K
    have s3 : spec_FoldTable.f (K + 1 + 1 + 1) (convL x) y.f0 y.f1 = some r ∧ impl_FoldTable.f (K + 1 + 1 + 1) (convL x) y.f0 y.f1 = some r := hsame (K + 1 + 1 + 1) (by omega)
    have s1 : spec_FoldTable.f (K + 1) (convL x) y.f0 y.f1 = some r ∧ impl_FoldTable.f (K + 1) (convL x) y.f0 y.f1 = some r := hsame (K + 1) (by omega)
    rw [szExtS_fit (by omega) h]
    simp only [bS]
    rw [if_neg (by omega), toExtS_eq (k := K + 1 + 1 + 1) (by omega) (by omega)]
    simp only [bS, toExt_eq]
    rw [s3.1, s3.2]
    simp only [bS]
    rw [eqExtS_refl (k := K + 1 + 1 + 1) (by omega) (by omega)]
    simp only [bS, if_true, bne_self_eq_false, laws_FnExactFoldTable.j0, Bool.false_eq_true, if_false]
    rw [toExtS_eq (k := K + 1 + 1) (by omega) (by omega)]
    simp only [bS]
    rw [eqExtS_refl (k := K + 1 + 1) (by omega) (by omega)]
    simp only [bS, if_true]
    rw [markExtS_eq (k := K + 1 + 1) (by omega) (by omega) (by omega) (by omega)]
    simp only [bS]
    rw [if_neg (by omega), eqExtS_refl (k := K + 1 + 1) (by omega) (by omega)]
    simp only [bS, if_true, bne_self_eq_false, laws_FnExactFoldTable.j1, Bool.false_eq_true, if_false]
    rw [markExtS_eq (k := K + 1) (by omega) (by omega) (by omega) (by omega)]
    simp only [bS]
    rw [heldExtS_eq (k := K + 1) (by omega) (by omega) (by omega) (by omega)]
    simp only [bS]
    rw [if_neg (by omega), if_true, toExtS_eq (k := K + 1) (by omega) (by omega)]
    simp only [bS, toExt_eq]
    rw [s1.2]
    simp only [bS]
    rw [eqExtS_refl (k := K + 1) (by omega) (by omega)]
    simp only [bS, if_true, bne_self_eq_false, laws_FnExactFoldTable.j2, Bool.false_eq_true, if_false]
    rw [heldExtS_eq (k := K) (by omega) (by omega) (by omega) (by omega)]
    simp only [bS]
    rw [if_neg (by omega), if_true]
  · refine ⟨1, ?_⟩
    unfold laws_FnExactFoldTable.f
    rw [szExtS_big (by omega) (by omega) hx.1 (by omega)]
    simp
end Go.Proofs.Ytlfnfalckfggkaa.fnExactFoldTable
end
