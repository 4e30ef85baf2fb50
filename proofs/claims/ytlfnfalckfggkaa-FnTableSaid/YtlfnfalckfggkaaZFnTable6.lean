/- Part 6 of the proof of FnTable: what functions compute, shown step by step, and what that says (the claim's last text states the law). -/
import Derived.Test.YtlfnfalckfggkaaProg
import Derived.Test.YtlfnfalckfggkaaVMore
import Derived.Test.YtlfnfalckfggkaaVWords
import Derived.Test.YtlfnfalckfggkaaVLast
import Derived.Test.YtlfnfalckfggkaaVTab
import Derived.Test.YtlfnfalckfggkaaVQPut
import Derived.Test.YtlfnfalckfggkaaVApart
import Derived.Test.YtlfnfalckfggkaaVArr
import Derived.Test.YtlfnfalckfggkaaVZeros
import Derived.Test.YtlfnfalckfggkaaVFoot
import Derived.Test.YtlfnfalckfggkaaVKept
import Derived.Test.YtlfnfalckfggkaaVShare
import Derived.Test.YtlfnfalckfggkaaVN
import Derived.Test.YtlfnfalckfggkaaVEqStruct
import Derived.Test.YtlfnfalckfggkaaVRepsOne
import Derived.Test.YtlfnfalckfggkaaVGuard
import Derived.Test.YtlfnfalckfggkaaVNEv
import Derived.Test.YtlfnfalckfggkaaRows
import Derived.JoinedOf
import Derived.WalkKit
import Derived.ProofKit
import Derived.Below
import Derived.Deep.Draws
import Derived.Deep.AppendLies
import Derived.Maps.AppendAt
import Derived.OwnWalk
import Derived.Laws.BytesArg
import Derived.Laws.MakeOwn
import Derived.Laws.OwnMore
import Derived.Deep.OwnRows
import Derived.Tactics
import Derived.Lib.ConvBytes
import Derived.Laws.Slices
import Derived.KernelRfl
import Derived.RowKit3
import Derived.Deep.LoopGhost
import Derived.Deep.QuietTactic
import Derived.BigQuiet
import Derived.WideLaws
import Derived.Deep.DeepCutAuto
import Derived.Deep.CutBlock
import Derived.Deep.RegionHeld3
import Derived.Laws.Rows
import Derived.Lib.AppendStr
import Derived.ArgAppend
import Derived.Laws.IdiomCopy
import Derived.OrdersHeld
import Derived.Laws.BitsLemmas
import Derived.RowKit
import Derived.StillTailTactics
import Derived.OpenShut
import Derived.ShutString
import Derived.ChangeOld
import Derived.SizedLaws
import Derived.Deep.Slices
import Derived.ChangeArms
import Derived.Test.YtlfnfalckfggkaaZFnTable5
section
/- What the printed functions of the field and of the greater field answer: the same sums and products on both sides. -/
namespace Go.Proofs.Ytlfnfalckfggkaa.PT
open Go.RowKit Go.Proofs.YtlfnfalckfggkaaW.PrintWords Go.Proofs.YtlfnfalckfggkaaW.PrintLast Go.Proofs.YtlfnfalckfggkaaW.PrintMore
set_option linter.unusedVariables false
set_option linter.unusedSimpArgs false

theorem impl_in_eq (a b c : Int) : impl_in.f a b c = some (decide (b ≤ a ∧ a ≤ c)) := by
  unfold impl_in.f; by_cases h : b ≤ a <;> simp [h]
theorem spec_l01In_eq (a b c : Int) : spec_l01In.f a b c = some (decide (b ≤ a ∧ a ≤ c)) := by
  unfold spec_l01In.f; by_cases h : b ≤ a <;> simp [h]
theorem impl_FieldOK_eq (a : Int) : impl_FieldOK.f a = some (decide (inF a)) := by
  unfold impl_FieldOK.f; rw [impl_in_eq]; rfl
theorem spec_FieldOK_eq (a : Int) : spec_FieldOK.f a = some (decide (inF a)) := by
  unfold spec_FieldOK.f; rw [spec_l01In_eq]; rfl
def okB (x : E) : Bool := decide (inF x.f0) && decide (inF x.f1)
theorem okB_iff (x : E) : okB x = true ↔ okE x := by
  unfold okB; rw [Bool.and_eq_true, decide_eq_true_eq, decide_eq_true_eq]; exact ⟨fun h => ⟨h.1, h.2⟩, fun h => ⟨h.a, h.b⟩⟩
theorem impl_ExtOK_eq (a b : Int) : impl_ExtOK.f a b = some (okB ⟨a, b⟩) := by
  unfold impl_ExtOK.f okB; rw [impl_FieldOK_eq, impl_FieldOK_eq]
  by_cases h : inF a <;> simp [h]
theorem spec_ExtOK_eq (a b : Int) : spec_ExtOK.f a b = some (okB ⟨a, b⟩) := by
  unfold spec_ExtOK.f okB; rw [spec_FieldOK_eq, spec_FieldOK_eq]
  by_cases h : inF a <;> simp [h]
theorem impl_add_eq {a b : Int} (ha : inF a) (hb : inF b) : impl_add.f a b = some (fadd a b) := by
  unfold inF at ha hb; unfold impl_add.f fadd; rw [w64 (by omega) (by omega), tmod_nn (by omega)]
theorem spec_l01Add_eq {a b : Int} (ha : inF a) (hb : inF b) : spec_l01Add.f a b = some (fadd a b) := by
  unfold inF at ha hb; unfold spec_l01Add.f fadd; rw [w64 (by omega) (by omega), tmod_nn (by omega)]
theorem impl_sub_eq {a b : Int} (ha : inF a) (hb : inF b) : impl_sub.f a b = some (fsub a b) := by
  unfold inF at ha hb; unfold impl_sub.f fsub; rw [w64 (n := a - b) (by omega) (by omega), w64 (by omega) (by omega), tmod_nn (by omega)]
  congr 1; omega
theorem spec_l01Sub_eq {a b : Int} (ha : inF a) (hb : inF b) : spec_l01Sub.f a b = some (fsub a b) := by
  unfold inF at ha hb; unfold spec_l01Sub.f fsub; rw [w64 (n := a + _) (by omega) (by omega), w64 (by omega) (by omega), tmod_nn (by omega)]
  congr 1; omega
theorem impl_mul_eq {a b : Int} (ha : inF a) (hb : inF b) : impl_mul.f a b = some (fmul a b) := by
  have := mul_bd ha hb
  unfold impl_mul.f fmul; rw [w64 (by omega) (by omega), tmod_nn (by omega)]
theorem spec_l01Mul_eq {a b : Int} (ha : inF a) (hb : inF b) : spec_l01Mul.f a b = some (fmul a b) := by
  have := mul_bd ha hb
  unfold spec_l01Mul.f fmul; rw [w64 (by omega) (by omega), tmod_nn (by omega)]
theorem impl_plus_eq {x y : E} (hx : okE x) (hy : okE y) : impl_Ext_plus.f x.f0 x.f1 y.f0 y.f1 = some ((eadd x y).f0, (eadd x y).f1) := by
  unfold impl_Ext_plus.f; rw [impl_add_eq hx.a hy.a, impl_add_eq hx.b hy.b]; rfl
theorem impl_minus_eq {x y : E} (hx : okE x) (hy : okE y) : impl_Ext_minus.f x.f0 x.f1 y.f0 y.f1 = some ((esub x y).f0, (esub x y).f1) := by
  unfold impl_Ext_minus.f; rw [impl_sub_eq hx.a hy.a, impl_sub_eq hx.b hy.b]; rfl
theorem impl_times_eq {x y : E} (hx : okE x) (hy : okE y) : impl_Ext_times.f x.f0 x.f1 y.f0 y.f1 = some ((emul x y).f0, (emul x y).f1) := by
  unfold impl_Ext_times.f
  simp only [impl_mul_eq hx.a hy.a, impl_mul_eq hx.b hy.b, impl_mul_eq hx.a hy.b, impl_mul_eq hx.b hy.a, impl_mul_eq inF_3 (inF_mul _ _), impl_add_eq (inF_mul _ _) (inF_mul _ _), Option.bind_some]
  rfl
theorem spec_l02Add_eq {x y : E} (hx : okE x) (hy : okE y) : spec_l02Add.f x.f0 x.f1 y.f0 y.f1 = some ((eadd x y).f0, (eadd x y).f1) := by
  unfold spec_l02Add.f; rw [spec_l01Add_eq hx.a hy.a, spec_l01Add_eq hx.b hy.b]; rfl
theorem spec_l02Sub_eq {x y : E} (hx : okE x) (hy : okE y) : spec_l02Sub.f x.f0 x.f1 y.f0 y.f1 = some ((esub x y).f0, (esub x y).f1) := by
  unfold spec_l02Sub.f; rw [spec_l01Sub_eq hx.a hy.a, spec_l01Sub_eq hx.b hy.b]; rfl
theorem spec_l02Mul_eq {x y : E} (hx : okE x) (hy : okE y) : spec_l02Mul.f x.f0 x.f1 y.f0 y.f1 = some ((emul x y).f0, (emul x y).f1) := by
  unfold spec_l02Mul.f
  have h3 : ∀ t, inF t → Int.tmod (wrap64 (3 * t)) 2130706433 = fmul 3 t := by
    intro t ht; unfold inF at ht; unfold fmul; rw [w64 (by omega) (by omega), tmod_nn (by omega)]
  simp only [spec_l01Mul_eq hx.a hy.a, spec_l01Mul_eq hx.b hy.b, spec_l01Mul_eq hx.a hy.b, spec_l01Mul_eq hx.b hy.a, Option.bind_some, h3 _ (inF_mul _ _), spec_l01Add_eq (inF_mul _ _) (inF_mul _ _)]
  rfl
theorem impl_one_eq : impl_one.f = some ((eof 1).f0, (eof 1).f1) := rfl

/-! lists -/
def okL (l : List E) : Prop := ∀ x ∈ l, okE x
def okLB (l : List E) : Bool := l.all okB
theorem okLB_iff (l : List E) : okLB l = true ↔ okL l := by
  unfold okLB okL; rw [List.all_eq_true]; exact ⟨fun h x hx => (okB_iff x).1 (h x hx), fun h x hx => (okB_iff x).2 (h x hx)⟩
theorem okL_get {l : List E} (h : okL l) (i : Nat) (hi : i < l.length) : okE (l.getD i zE) := by
  rw [List.getD_eq_getElem?_getD, List.getElem?_eq_getElem hi]; exact h _ (List.getElem_mem hi)
theorem impl_are_eq (l : List E) : impl_are_Ext_ExtOK.f l = some (okLB l) := by
  unfold impl_are_Ext_ExtOK.f okLB
  congr 2; funext x; unfold impl_are_Ext_ExtOK.p; rw [impl_ExtOK_eq]; rfl
theorem spec_l02List_l0 (l : List E) (hl : l.length ≤ 4611686018427387904) (d : Nat) : ∀ (k i : Nat), i + d = l.length → d < k → spec_l02List.l0 k l i = some ((l.drop i).all okB) := by
  induction d with
  | zero =>
    intro k i hi hk
    obtain ⟨k, rfl⟩ : ∃ m, k = m + 1 := ⟨k - 1, by omega⟩
    simp only [spec_l02List.l0]; rw [if_neg (by omega), List.drop_eq_nil_of_le (by omega)]; rfl
  | succ d ih =>
    intro k i hi hk
    obtain ⟨k, rfl⟩ : ∃ m, k = m + 1 := ⟨k - 1, by omega⟩
    have hlt : i < l.length := by omega
    simp only [spec_l02List.l0]
    rw [if_pos (by omega), if_pos (by omega), spec_ExtOK_eq, List.drop_eq_getElem_cons hlt]
    have hg : rd_T42 l (i : Int) = l[i] := by rw [rdE, Int.toNat_natCast, List.getD_eq_getElem?_getD, List.getElem?_eq_getElem hlt]; rfl
    rw [hg]
    simp only [Option.bind_some, List.all_cons]
    by_cases hb : okB l[i] = true
    · have e : okB ⟨(l[i]).f0, (l[i]).f1⟩ = true := hb
      rw [e, if_pos rfl, w64 (by omega) (by omega), show (i : Int) + 1 = ((i + 1 : Nat) : Int) by omega, ih k (i + 1) (by omega) (by omega)]
      rfl
    · replace hb := Bool.eq_false_iff.mpr hb
      have e : okB ⟨(l[i]).f0, (l[i]).f1⟩ = false := hb
      rw [e]; rfl
theorem spec_l02List_eq {l : List E} (hl : l.length ≤ 4611686018427387904) {k : Nat} (hk : l.length < k) : spec_l02List.f k l = some (okLB l) := by
  have := spec_l02List_l0 l hl l.length k 0 (by omega) hk
  unfold spec_l02List.f; exact this
end Go.Proofs.Ytlfnfalckfggkaa.PT
end
section
/- The laws' own helpers: elements copied, compared, marked; and powers of two. -/
namespace Go.Proofs.Ytlfnfalckfggkaa.PT
open Go.RowKit Go.Proofs.YtlfnfalckfggkaaW.PrintWords Go.Proofs.YtlfnfalckfggkaaW.PrintLast Go.Proofs.YtlfnfalckfggkaaW.PrintMore
set_option linter.unusedVariables false
set_option linter.unusedSimpArgs false

theorem getD_at {α : Type} {l : List α} {z : α} {i : Nat} (h : i < l.length) : l.getD i z = l[i] := by
  rw [List.getD_eq_getElem?_getD, List.getElem?_eq_getElem h]; rfl
theorem rdE_at {l : List E} {i : Nat} (h : i < l.length) : rd_T42 l (i : Int) = l[i] := by rw [rdE, Int.toNat_natCast, getD_at h]
theorem set_mid {α : Type} (a b : List α) (x y : α) : (a ++ x :: b).set a.length y = a ++ y :: b := by
  rw [List.set_append_right _ _ (Nat.le_refl _)]; simp
/-! marks: a list's cells are numbered from k on -/
def marked : Nat → Int → List E
  | 0, _ => []
  | n + 1, k => ⟨k, k + 1⟩ :: marked n (k + 2)
/-! powers of two -/
def pow2B (n most : Int) : Bool := decide (n ≤ most) && (n == 1 || n == 2 || n == 4 || n == 8 || n == 16 || n == 32 || n == 64 || n == 128 || n == 256 || n == 512)
theorem and_small : ∀ n : Fin 513, 0 < n.val → ((Go.bits .and .i64 (n.val : Int) ((n.val : Int) - 1)) == 0) = pow2B n.val 512 := by decide +kernel
theorem impl_isPower_eq {n most : Int} (hm : most ≤ 512) : impl_isPower.f n most = some (pow2B n most) := by
  unfold impl_isPower.f
  rw [impl_in_eq]
  simp only [Option.bind_some]
  by_cases h : 1 ≤ n ∧ n ≤ most
  · rw [decide_eq_true h, if_pos rfl, w64 (by omega) (by omega)]
    have := and_small ⟨n.toNat, by omega⟩ (by show 0 < n.toNat; omega)
    simp only [Int.toNat_of_nonneg (show 0 ≤ n by omega)] at this
    rw [this]
    unfold pow2B
    rw [decide_eq_true h.2, decide_eq_true (show n ≤ 512 by omega)]
  · rw [decide_eq_false h, if_neg (by decide)]
    congr 1
    symm
    unfold pow2B
    by_cases h2 : n ≤ most
    · have : n < 1 := by omega
      have e : ∀ m : Int, 1 ≤ m → (n == m) = false := fun m hm => beq_eq_false_iff_ne.2 (by omega)
      simp [e]
    · rw [decide_eq_false h2]; rfl
def pw (n most : Int) : Nat → Int → Bool
  | 0, _ => false
  | r + 1, x => (decide (x ≤ most) && (n == x)) || (decide (x ≤ most) && pw n most r (x * 2))
theorem l04Power_l0 (n most : Int) (hm : most ≤ 512) (r : Nat) : ∀ (k : Nat) (x : Int), 0 < x → most < x * 2 ^ r → r < k → spec_l04Power.l0 k n most x = some (pw n most r x) := by
  induction r with
  | zero =>
    intro k x hx h hk
    obtain ⟨k, rfl⟩ : ∃ m, k = m + 1 := ⟨k - 1, by omega⟩
    simp only [spec_l04Power.l0]; rw [if_neg (by simp at h; omega)]; rfl
  | succ r ih =>
    intro k x hx h hk
    obtain ⟨k, rfl⟩ : ∃ m, k = m + 1 := ⟨k - 1, by omega⟩
    simp only [spec_l04Power.l0, pw]
    by_cases h1 : x ≤ most
    · rw [if_pos h1, decide_eq_true h1]
      by_cases h2 : n = x
      · rw [if_pos h2, beq_iff_eq.2 h2]; rfl
      · rw [if_neg h2, beq_eq_false_iff_ne.2 h2, w64 (by omega) (by omega), ih k (x * 2) (by omega) (by rw [Int.pow_succ] at h; rw [Int.mul_assoc, Int.mul_comm 2]; exact h) (by omega)]; simp
    · rw [if_neg h1, decide_eq_false h1]; rfl
theorem pw_eq {n most : Int} (hm : most ≤ 512) : pw n most 10 1 = pow2B n most := by
  rw [Bool.eq_iff_iff]
  simp only [pw, pow2B, Bool.or_eq_true, Bool.and_eq_true, decide_eq_true_eq, beq_iff_eq]
  simp
  omega
theorem spec_l04Power_eq {n most : Int} (hm : most ≤ 512) {k : Nat} (hk : 10 < k) : spec_l04Power.f k n most = some (pow2B n most) := by
  unfold spec_l04Power.f
  rw [l04Power_l0 n most hm 10 k 1 (by omega) (by omega) hk, pw_eq hm]
theorem spec_l06Table_eq {n : Int} {k : Nat} (hk : 10 < k) : spec_l06Table.f k n = some (pow2B n 64) := by
  unfold spec_l06Table.f; rw [spec_l04Power_eq (by omega) hk]; rfl
end Go.Proofs.Ytlfnfalckfggkaa.PT
end
section
/- Steps that several laws share: same answers compared, lists turned in place. -/
namespace Go.Proofs.Ytlfnfalckfggkaa.PT
open Go.RowKit Go.Proofs.YtlfnfalckfggkaaW.PrintWords Go.Proofs.YtlfnfalckfggkaaW.PrintLast Go.Proofs.YtlfnfalckfggkaaW.PrintMore
set_option linter.unusedVariables false
set_option linter.unusedSimpArgs false
/-- A step with its answer known, as a rewriting (no unfolding in the kernel). -/
theorem bS {α β : Type} (a : α) (f : α → Option β) : (some a).bind f = f a := Eq.trans (Eq.refl _) (Option.bind_some a f)
theorem okL_rd {l : List E} (h : okL l) {i : Int} (hi : 0 ≤ i) (hl : i < l.length) : okE (rd_T42 l i) := okL_get h i.toNat (by omega)
theorem okL_app {l m : List E} (h : okL l) (h2 : okL m) : okL (l ++ m) := by
  intro y hy
  rcases List.mem_append.mp hy with h1 | h1
  · exact h y h1
  · exact h2 y h1
theorem okL_one {x : E} (hx : okE x) : okL [x] := by intro y hy; rw [List.mem_singleton.mp hy]; exact hx
theorem okL_nil : okL [] := by intro y hy; cases hy
end Go.Proofs.Ytlfnfalckfggkaa.PT
end
section
/- The equality weight, at a point and as a table: both sides walk the same numbers. -/
namespace Go.Proofs.Ytlfnfalckfggkaa.PT
open Go.RowKit Go.Proofs.YtlfnfalckfggkaaW.PrintWords Go.Proofs.YtlfnfalckfggkaaW.PrintLast Go.Proofs.YtlfnfalckfggkaaW.PrintMore
set_option linter.unusedVariables false
set_option linter.unusedSimpArgs false
theorem l06One_eq : spec_l06One.f = some ((eof 1).f0, (eof 1).f1) := rfl
theorem l06Less_eq {x : E} (hx : okE x) : spec_l06Less.f x.f0 x.f1 = some ((esub (eof 1) x).f0, (esub (eof 1) x).f1) := by
  unfold spec_l06Less.f
  rw [l06One_eq]
  simp only [bS]
  rw [spec_l02Sub_eq (ok_of inF_1) hx]
  rfl
def pointB (l : List E) : Bool := decide (l.length ≤ 6) && okLB l
theorem l06Point_eq {l : List E} {k : Nat} (hk : l.length < k) : spec_l06Point.f k l = some (pointB l) := by
  unfold spec_l06Point.f pointB
  by_cases h : l.length ≤ 6
  · rw [if_pos (by omega), spec_l02List_eq (by omega) hk, decide_eq_true h]; simp
  · rw [if_neg (by omega), decide_eq_false h]; rfl
theorem isPoint_eq (l : List E) : impl_isPoint.f l = some (pointB l) := by
  unfold impl_isPoint.f pointB
  by_cases h : l.length ≤ 6
  · rw [if_pos (by omega), impl_are_eq, decide_eq_true h]; simp
  · rw [if_neg (by omega), decide_eq_false h]; rfl
/-! the table -/
def wA (p x : E) : E := emul x (esub (eof 1) p)
def wB (p x : E) : E := emul x p
def wNext (L : List E) (p : E) : List E := L.map (wA p) ++ L.map (wB p)
theorem wNext_length (L : List E) (p : E) : (wNext L p).length = 2 * L.length := by simp [wNext]; omega
theorem wNext_ok (L : List E) (p : E) : okL (wNext L p) := by
  intro y hy
  rcases List.mem_append.mp hy with h | h <;> obtain ⟨z, _, rfl⟩ := List.mem_map.mp h <;> exact ok_mul _ _
def wAll : List E → List E → List E
  | L, [] => L
  | L, p :: ps => wAll (wNext L p) ps
theorem etaE (x : E) : (⟨x.f0, x.f1⟩ : E) = x := rfl
theorem take_map_set {α : Type} (f : α → α) (L : List α) (z : α) (i : Nat) (h : i < L.length) :
    ((L.take i).map f ++ List.replicate (L.length - i) z).set i (f L[i]) = (L.take (i + 1)).map f ++ List.replicate (L.length - (i + 1)) z := by
  have e : L.length - i = (L.length - (i + 1)) + 1 := by omega
  have hl : ((L.take i).map f).length = i := by simp; omega
  rw [e, List.replicate_succ]
  have := set_mid ((L.take i).map f) (List.replicate (L.length - (i + 1)) z) z (f L[i])
  rw [hl] at this
  rw [this, List.take_succ_eq_append_getElem h, List.map_append]
  simp only [List.map_cons, List.map_nil, List.append_assoc, List.cons_append, List.nil_append]
theorem specEq_l1 (x0 L : List E) (h0 : okL x0) (hL : okL L) (j : Nat) (hj : j < x0.length) (hn : x0.length ≤ 64) (hm : L.length ≤ 1048576) (d : Nat) : ∀ (k i : Nat), i + d = L.length → d < k →
    spec_l06Eq.l1 k x0 L j (((L.take i).map (wA x0[j]) ++ List.replicate (L.length - i) zE) ++ ((L.take i).map (wB x0[j]) ++ List.replicate (L.length - i) zE)) i
    = spec_l06Eq.l0 (k - d - 1) x0 (wNext L x0[j]) (wrap64 (j + 1)) := by
  induction d with
  | zero =>
    intro k i hi hk
    obtain ⟨k, rfl⟩ : ∃ m, k = m + 1 := ⟨k - 1, by omega⟩
    simp only [spec_l06Eq.l1]
    rw [if_neg (by omega), List.take_of_length_le (by omega)]
    have e : L.length - i = 0 := by omega
    rw [e]
    simp [wNext]
  | succ d ih =>
    intro k i hi hk
    obtain ⟨k, rfl⟩ : ∃ m, k = m + 1 := ⟨k - 1, by omega⟩
    have h1 : okE (rd_T42 L i) := okL_rd hL (by omega) (by omega)
    have h2 : okE (rd_T42 x0 j) := okL_rd h0 (by omega) (by omega)
    have g1 : rd_T42 L i = L[i]'(by omega) := rdE_at _
    have g2 : rd_T42 x0 j = x0[j] := rdE_at _
    have lA : ((L.take i).map (wA x0[j]) ++ List.replicate (L.length - i) zE).length = L.length := by simp; omega
    have lB : ((L.take i).map (wB x0[j]) ++ List.replicate (L.length - i) zE).length = L.length := by simp; omega
    simp only [spec_l06Eq.l1]
    rw [if_pos (by omega), if_pos (by omega), if_pos (by omega), if_pos (by omega), l06Less_eq h2]
    simp only [bS]
    rw [spec_l02Mul_eq h1 (ok_sub _ _), spec_l02Mul_eq h1 h2]
    simp only [bS]
    rw [w64 (n := (i : Int) + (L.length : Int)) (by omega) (by omega), if_pos (by rw [List.length_append, lA, lB]; omega), if_pos (by omega), if_pos (by rw [List.length_append, lA, lB]; omega), w64 (n := (i : Int) + 1) (by omega) (by omega)]
    have t1 : ((i : Int) + (L.length : Int)).toNat = L.length + i := by omega
    rw [t1, Int.toNat_natCast, List.set_append_left _ _ (by rw [lA]; omega), List.set_append_right _ _ (by rw [List.length_set, lA]; omega), List.length_set, lA, Nat.add_sub_cancel_left]
    have s1 : ((L.take i).map (wA x0[j]) ++ List.replicate (L.length - i) zE).set i (emul L[i] (esub (eof 1) x0[j])) = _ := take_map_set (wA x0[j]) L zE i (by omega)
    have s2 : ((L.take i).map (wB x0[j]) ++ List.replicate (L.length - i) zE).set i (emul L[i] x0[j]) = _ := take_map_set (wB x0[j]) L zE i (by omega)
    rw [g1, g2, etaE, etaE, s1, s2, show (i : Int) + 1 = ((i + 1 : Nat) : Int) by omega, ih k (i + 1) (by omega) (by omega)]
    congr 1
    omega
theorem implEq_l1 (x0 L : List E) (h0 : okL x0) (hL : okL L) (j : Nat) (hj : j < x0.length) (hn : x0.length ≤ 64) (hm : L.length ≤ 1048576) (d : Nat) : ∀ (k i : Nat), i + d = L.length → d < k →
    impl_eqTable.l1 k ((L.take i).map (wA x0[j])) ((L.take i).map (wB x0[j])) x0 (x0.length : Int) j L (L.length : Int) i (x0[j]).f0 (x0[j]).f1
    = impl_eqTable.l0 (k - d - 1) (wNext L x0[j]) x0 (x0.length : Int) (wrap64 (j + 1)) := by
  induction d with
  | zero =>
    intro k i hi hk
    obtain ⟨k, rfl⟩ : ∃ m, k = m + 1 := ⟨k - 1, by omega⟩
    simp only [impl_eqTable.l1]
    rw [if_neg (by omega), List.take_of_length_le (by omega), if_pos (by simp; omega)]
    simp [wNext]
  | succ d ih =>
    intro k i hi hk
    obtain ⟨k, rfl⟩ : ∃ m, k = m + 1 := ⟨k - 1, by omega⟩
    have h1 : okE (rd_T42 L i) := okL_rd hL (by omega) (by omega)
    have g1 : rd_T42 L i = L[i]'(by omega) := rdE_at _
    have h2 : okE x0[j] := h0 _ (List.getElem_mem _)
    simp only [impl_eqTable.l1]
    rw [if_pos (by omega), if_pos (by omega), if_pos (by omega), impl_one_eq]
    simp only [bS]
    rw [impl_minus_eq (ok_of inF_1) h2]
    simp only [bS]
    rw [impl_times_eq h1 (ok_sub _ _), impl_times_eq h1 h2]
    simp only [bS]
    rw [if_pos (by simp; omega), if_pos (by simp; omega), w64 (by omega) (by omega), g1]
    have e := ih k (i + 1) (by omega) (by omega)
    rw [List.take_succ_eq_append_getElem (by omega), List.map_append, List.map_append] at e
    rw [show (i : Int) + 1 = ((i + 1 : Nat) : Int) by omega]
    refine Eq.trans e ?_
    congr 1
    omega
theorem eqT_l0 (x0 : List E) (h0 : okL x0) (hn : x0.length ≤ 6) (d : Nat) : ∀ (ks ki j : Nat) (L : List E), j + d = x0.length → d * 200 < ks → d * 200 < ki → okL L → L.length = 2 ^ j →
    spec_l06Eq.l0 ks x0 L j = some (wAll L (x0.drop j)) ∧ impl_eqTable.l0 ki L x0 (x0.length : Int) j = some (wAll L (x0.drop j)) := by
  induction d with
  | zero =>
    intro ks ki j L hj hks hki hL hl
    obtain ⟨ks, rfl⟩ : ∃ m, ks = m + 1 := ⟨ks - 1, by omega⟩
    obtain ⟨ki, rfl⟩ : ∃ m, ki = m + 1 := ⟨ki - 1, by omega⟩
    simp only [spec_l06Eq.l0, impl_eqTable.l0]
    rw [if_neg (by omega), if_neg (by omega), List.drop_eq_nil_of_le (by omega)]
    exact ⟨rfl, rfl⟩
  | succ d ih =>
    intro ks ki j L hj hks hki hL hl
    obtain ⟨ks, rfl⟩ : ∃ m, ks = m + 1 := ⟨ks - 1, by omega⟩
    obtain ⟨ki, rfl⟩ : ∃ m, ki = m + 1 := ⟨ki - 1, by omega⟩
    have hlt : j < x0.length := by omega
    have hp : L.length ≤ 64 := by
      rw [hl]
      exact Nat.le_trans (Nat.pow_le_pow_right (by omega) (show j ≤ 6 by omega)) (by decide)
    have hp2 : (wNext L x0[j]).length = 2 ^ (j + 1) := by rw [wNext_length, hl, Nat.pow_succ]; omega
    simp only [spec_l06Eq.l0, impl_eqTable.l0]
    rw [w64 (n := 2 * (L.length : Int)) (by omega) (by omega), if_pos (by omega), if_pos (by omega), if_pos (by omega), if_pos (by omega), if_pos (by omega), if_pos (by omega), rdE_at hlt]
    have e1 := specEq_l1 x0 L h0 hL j hlt (by omega) (by omega) L.length ks 0 (by omega) (by omega)
    have e2 := implEq_l1 x0 L h0 hL j hlt (by omega) (by omega) L.length ki 0 (by omega) (by omega)
    have e3 : List.replicate (2 * (L.length : Int)).toNat zE = List.replicate L.length zE ++ List.replicate L.length zE := by
      rw [List.replicate_append_replicate]; congr 1; omega
    simp only [List.take_zero, List.map_nil, List.nil_append, Nat.sub_zero, Int.natCast_zero] at e1 e2
    rw [show List.replicate (2 * (L.length : Int)).toNat z42 = _ from e3, e1, e2, w64 (by omega) (by omega), show (j : Int) + 1 = ((j + 1 : Nat) : Int) by omega]
    have e4 := ih (ks - L.length - 1) (ki - L.length - 1) (j + 1) (wNext L x0[j]) (by omega) (by omega) (by omega) (wNext_ok _ _) hp2
    rw [List.drop_eq_getElem_cons hlt]
    exact e4
theorem wAll_ok (ps : List E) : ∀ L, okL L → okL (wAll L ps) := by
  induction ps with
  | nil => intro L h; exact h
  | cons p ps ih => intro L h; exact ih _ (wNext_ok _ _)
theorem wAll_length (ps : List E) : ∀ L, (wAll L ps).length = L.length * 2 ^ ps.length := by
  induction ps with
  | nil => intro L; simp [wAll]
  | cons p ps ih => intro L; rw [wAll, ih, wNext_length, List.length_cons, Nat.pow_succ, Nat.mul_assoc, Nat.mul_left_comm, Nat.mul_comm 2 (2 ^ _)]
def eqTab (x0 : List E) : List E := wAll [eof 1] x0
theorem eqTab_ok (x0 : List E) : okL (eqTab x0) := wAll_ok _ _ (okL_one (ok_of inF_1))
theorem eqTab_length (x0 : List E) : (eqTab x0).length = 2 ^ x0.length := by unfold eqTab; rw [wAll_length]; simp
theorem l06Eq_eq {x0 : List E} (h0 : okL x0) (hn : x0.length ≤ 6) {k : Nat} (hk : 1200 < k) : spec_l06Eq.f k x0 = some (eqTab x0) := by
  unfold spec_l06Eq.f
  rw [l06One_eq]
  have := (eqT_l0 x0 h0 hn x0.length k k 0 [eof 1] (by omega) (by omega) (by omega) (okL_one (ok_of inF_1)) rfl).1
  exact this
theorem eqTable_eq {x0 : List E} (h0 : okL x0) (hn : x0.length ≤ 6) {k : Nat} (hk : 1200 < k) : impl_eqTable.f k x0 = some (eqTab x0) := by
  unfold impl_eqTable.f
  rw [impl_one_eq]
  have := (eqT_l0 x0 h0 hn x0.length k k 0 [eof 1] (by omega) (by omega) (by omega) (okL_one (ok_of inF_1)) rfl).2
  exact this
end Go.Proofs.Ytlfnfalckfggkaa.PT
end
section
/- Tables turned in place, folded, and read at a point: both sides walk the same numbers. -/
namespace Go.Proofs.Ytlfnfalckfggkaa.PT
open Go.RowKit Go.Proofs.YtlfnfalckfggkaaW.PrintWords Go.Proofs.YtlfnfalckfggkaaW.PrintLast Go.Proofs.YtlfnfalckfggkaaW.PrintMore
set_option linter.unusedVariables false
set_option linter.unusedSimpArgs false
theorem spec_TableOK_eq {l : List E} (hl : l.length ≤ 1048576) {k : Nat} (hk : l.length + 20 < k) : spec_TableOK.f k l = some (pow2B l.length 64 && okLB l) := by
  unfold spec_TableOK.f
  by_cases h2 : (l.length : Int) > 4096
  · rw [if_pos h2]; congr 1; symm
    have : pow2B (l.length : Int) 64 = false := by unfold pow2B; rw [decide_eq_false (by omega)]; rfl
    rw [this]; rfl
  · rw [if_neg h2, spec_l06Table_eq (by omega), spec_l02List_eq (by omega) (by omega)]
    cases pow2B (l.length : Int) 64 <;> simp
theorem impl_TableOK_eq (l : List E) : impl_TableOK.f l = some (pow2B l.length 64 && okLB l) := by
  unfold impl_TableOK.f
  rw [impl_isPower_eq (by omega), impl_are_eq]
  cases pow2B (l.length : Int) 64 <;> simp
/-! a table turned in place -/
/-! a table folded -/
theorem between_eq {x y z : E} (hx : okE x) (hy : okE y) (hz : okE z) : impl_between.f x.f0 x.f1 y.f0 y.f1 z.f0 z.f1 = some ((eadd x (emul z (esub y x))).f0, (eadd x (emul z (esub y x))).f1) := by
  unfold impl_between.f
  rw [impl_minus_eq hy hx]
  simp only [bS]
  rw [impl_times_eq hz (ok_sub _ _)]
  simp only [bS]
  rw [impl_plus_eq hx (ok_mul _ _)]
  rfl
/-! a table at a point -/
theorem shl_small0 : ∀ n : Fin 10, shl .i64 1 (n.val : Int) = ((2 ^ n.val : Nat) : Int) := by decide +kernel
theorem shl_small {n : Nat} (h : n < 10) : shl .i64 1 (n : Int) = ((2 ^ n : Nat) : Int) := shl_small0 ⟨n, h⟩
theorem at_l0 (x0 y : List E) (h0 : okL x0) (hy : okL y) (hn : x0.length = y.length) (hl : x0.length ≤ 4096) (d : Nat) : ∀ (k i : Nat) (r : E), i + d = x0.length → d < k → okE r →
    ∃ q, spec_l06At.l0 k x0 y i r.f0 r.f1 = some q ∧ impl_dot.l0 k y x0 (x0.length : Int) i r.f0 r.f1 = some q := by
  induction d with
  | zero =>
    intro k i r hi hk hr
    obtain ⟨k, rfl⟩ : ∃ m, k = m + 1 := ⟨k - 1, by omega⟩
    simp only [spec_l06At.l0, impl_dot.l0]
    rw [if_neg (by omega), if_neg (by omega)]; exact ⟨_, rfl, rfl⟩
  | succ d ih =>
    intro k i r hi hk hr
    obtain ⟨k, rfl⟩ : ∃ m, k = m + 1 := ⟨k - 1, by omega⟩
    have h1 : okE (rd_T42 x0 i) := okL_rd h0 (by omega) (by omega)
    have h2 : okE (rd_T42 y i) := okL_rd hy (by omega) (by omega)
    simp only [spec_l06At.l0, impl_dot.l0]
    rw [if_pos (by omega), if_pos (by omega), if_pos (by omega), if_pos (by omega), if_pos (by omega), if_pos (by omega), if_pos (by omega)]
    rw [spec_l02Mul_eq h1 h2, impl_times_eq h1 h2]
    simp only [bS]
    rw [spec_l02Add_eq hr (ok_mul _ _), impl_plus_eq hr (ok_mul _ _)]
    simp only [bS]
    rw [w64 (by omega) (by omega), show (i : Int) + 1 = ((i + 1 : Nat) : Int) by omega]
    exact ih k (i + 1) _ (by omega) (by omega) (ok_add _ _)
end Go.Proofs.Ytlfnfalckfggkaa.PT
end
section
/- A table turned is a table turned half by half; turned forth and back it is itself. -/
namespace Go.Proofs.Ytlfnfalckfggkaa.PT
open Go.RowKit Go.Proofs.YtlfnfalckfggkaaW.PrintWords Go.Proofs.YtlfnfalckfggkaaW.PrintLast Go.Proofs.YtlfnfalckfggkaaW.PrintMore
set_option linter.unusedVariables false
set_option linter.unusedSimpArgs false
theorem split_half {n : Nat} {x : List E} (h : x.length = 2 ^ (n + 1)) : ∃ lo hi, x = lo ++ hi ∧ lo.length = 2 ^ n ∧ hi.length = 2 ^ n := by
  refine ⟨x.take (2 ^ n), x.drop (2 ^ n), (List.take_append_drop _ _).symm, ?_, ?_⟩
  · rw [List.length_take, h, Nat.pow_succ]; omega
  · rw [List.length_drop, h, Nat.pow_succ]; omega
theorem sub_add {a b : E} (ha : okE a) : eadd (esub a b) b = a := by
  refine E.ext_ ?_ ?_
  · show fadd (fsub a.f0 b.f0) b.f0 = a.f0
    have := ha.a; unfold inF at this; unfold fadd fsub; omega
  · show fadd (fsub a.f1 b.f1) b.f1 = a.f1
    have := ha.b; unfold inF at this; unfold fadd fsub; omega
/-! the loops are this -/
end Go.Proofs.Ytlfnfalckfggkaa.PT
end
section
/- Powers, inverses and the line: what the printed functions of chapter 2 come to. -/
namespace Go.Proofs.Ytlfnfalckfggkaa.PT
open Go.RowKit Go.Proofs.YtlfnfalckfggkaaW.PrintWords Go.Proofs.YtlfnfalckfggkaaW.PrintLast Go.Proofs.YtlfnfalckfggkaaW.PrintMore
set_option linter.unusedVariables false
set_option linter.unusedSimpArgs false
theorem e_al (a b : Int) : (a % 2130706433 + b) % 2130706433 = (a + b) % 2130706433 := by omega
theorem e_ar (a b : Int) : (a + b % 2130706433) % 2130706433 = (a + b) % 2130706433 := by omega
theorem e_sl (a b : Int) : (a % 2130706433 - b) % 2130706433 = (a - b) % 2130706433 := by omega
theorem e_sr (a b : Int) : (a - b % 2130706433) % 2130706433 = (a - b) % 2130706433 := by omega
theorem e_ml (a b : Int) : (a % 2130706433 * b) % 2130706433 = (a * b) % 2130706433 := by rw [Int.mul_emod, Int.emod_emod_of_dvd _ (Int.dvd_refl _), ← Int.mul_emod]
theorem e_mr (a b : Int) : (a * (b % 2130706433)) % 2130706433 = (a * b) % 2130706433 := by rw [Int.mul_emod, Int.emod_emod_of_dvd _ (Int.dvd_refl _), ← Int.mul_emod]
theorem scale_one {x : E} (hx : okE x) : escale x 1 = x := E.ext_ (fmul_one hx.a) (fmul_one hx.b)
end Go.Proofs.Ytlfnfalckfggkaa.PT
end
section
/- The field's order is a prime: powers, inverses and the greater field's laws. -/
namespace Go.Proofs.Ytlfnfalckfggkaa.PT
open Go.RowKit Go.Proofs.YtlfnfalckfggkaaW.PrintWords Go.Proofs.YtlfnfalckfggkaaW.PrintLast Go.Proofs.YtlfnfalckfggkaaW.PrintMore
set_option linter.unusedVariables false
set_option linter.unusedSimpArgs false
theorem emul_comm (x y : E) : emul x y = emul y x := by
  refine E.ext_ ?_ ?_
  · show fadd (fmul x.f0 y.f0) (fmul 3 (fmul x.f1 y.f1)) = fadd (fmul y.f0 x.f0) (fmul 3 (fmul y.f1 x.f1))
    rw [fmul_comm x.f0, fmul_comm x.f1]
  · show fadd (fmul x.f0 y.f1) (fmul x.f1 y.f0) = fadd (fmul y.f0 x.f1) (fmul y.f1 x.f0)
    unfold fadd fmul
    simp only [e_al, e_ar, e_ml, e_mr]
    congr 1; grind
theorem emul_assoc (x y z : E) : emul (emul x y) z = emul x (emul y z) := by
  refine E.ext_ ?_ ?_
  · show fadd (fmul (fadd (fmul x.f0 y.f0) (fmul 3 (fmul x.f1 y.f1))) z.f0) (fmul 3 (fmul (fadd (fmul x.f0 y.f1) (fmul x.f1 y.f0)) z.f1)) = fadd (fmul x.f0 (fadd (fmul y.f0 z.f0) (fmul 3 (fmul y.f1 z.f1)))) (fmul 3 (fmul x.f1 (fadd (fmul y.f0 z.f1) (fmul y.f1 z.f0))))
    unfold fadd fmul
    simp only [e_al, e_ar, e_ml, e_mr]
    congr 1; grind
  · show fadd (fmul (fadd (fmul x.f0 y.f0) (fmul 3 (fmul x.f1 y.f1))) z.f1) (fmul (fadd (fmul x.f0 y.f1) (fmul x.f1 y.f0)) z.f0) = fadd (fmul x.f0 (fadd (fmul y.f0 z.f1) (fmul y.f1 z.f0))) (fmul x.f1 (fadd (fmul y.f0 z.f0) (fmul 3 (fmul y.f1 z.f1))))
    unfold fadd fmul
    simp only [e_al, e_ar, e_ml, e_mr]
    congr 1; grind
theorem emul_one {x : E} (hx : okE x) : emul x (eof 1) = x := by rw [emul_of]; exact scale_one hx
theorem one_emul {x : E} (hx : okE x) : emul (eof 1) x = x := by rw [emul_comm, emul_one hx]
end Go.Proofs.Ytlfnfalckfggkaa.PT
end
section
/- A table's polynomial from its coefficients and from the equality weight: one value. -/
namespace Go.Proofs.Ytlfnfalckfggkaa.PT
open Go.RowKit Go.Proofs.YtlfnfalckfggkaaW.PrintWords Go.Proofs.YtlfnfalckfggkaaW.PrintLast Go.Proofs.YtlfnfalckfggkaaW.PrintMore
set_option linter.unusedVariables false
set_option linter.unusedSimpArgs false
theorem eadd_assoc (a b c : E) : eadd (eadd a b) c = eadd a (eadd b c) := by
  refine E.ext_ ?_ ?_
  · show fadd (fadd a.f0 b.f0) c.f0 = fadd a.f0 (fadd b.f0 c.f0)
    unfold fadd; omega
  · show fadd (fadd a.f1 b.f1) c.f1 = fadd a.f1 (fadd b.f1 c.f1)
    unfold fadd; omega
theorem eadd_comm (a b : E) : eadd a b = eadd b a := by
  refine E.ext_ ?_ ?_
  · show fadd a.f0 b.f0 = fadd b.f0 a.f0
    unfold fadd; omega
  · show fadd a.f1 b.f1 = fadd b.f1 a.f1
    unfold fadd; omega
theorem eadd_zero {a : E} (h : okE a) : eadd a zE = a := by
  refine E.ext_ ?_ ?_
  · show fadd a.f0 0 = a.f0
    have := h.a; unfold inF at this; unfold fadd; omega
  · show fadd a.f1 0 = a.f1
    have := h.b; unfold inF at this; unfold fadd; omega
theorem zero_eadd {a : E} (h : okE a) : eadd zE a = a := by rw [eadd_comm, eadd_zero h]
theorem emul_add (a b c : E) : emul (eadd a b) c = eadd (emul a c) (emul b c) := by
  refine E.ext_ ?_ ?_
  · show fadd (fmul (fadd a.f0 b.f0) c.f0) (fmul 3 (fmul (fadd a.f1 b.f1) c.f1)) = fadd (fadd (fmul a.f0 c.f0) (fmul 3 (fmul a.f1 c.f1))) (fadd (fmul b.f0 c.f0) (fmul 3 (fmul b.f1 c.f1)))
    unfold fadd fmul
    simp only [e_al, e_ar, e_ml, e_mr]
    congr 1; grind
  · show fadd (fmul (fadd a.f0 b.f0) c.f1) (fmul (fadd a.f1 b.f1) c.f0) = fadd (fadd (fmul a.f0 c.f1) (fmul a.f1 c.f0)) (fadd (fmul b.f0 c.f1) (fmul b.f1 c.f0))
    unfold fadd fmul
    simp only [e_al, e_ar, e_ml, e_mr]
    congr 1; grind
theorem emul_sub (a b c : E) : emul (esub a b) c = esub (emul a c) (emul b c) := by
  refine E.ext_ ?_ ?_
  · show fadd (fmul (fsub a.f0 b.f0) c.f0) (fmul 3 (fmul (fsub a.f1 b.f1) c.f1)) = fsub (fadd (fmul a.f0 c.f0) (fmul 3 (fmul a.f1 c.f1))) (fadd (fmul b.f0 c.f0) (fmul 3 (fmul b.f1 c.f1)))
    unfold fadd fmul fsub
    simp only [e_al, e_ar, e_ml, e_mr, e_sl, e_sr]
    congr 1; grind
  · show fadd (fmul (fsub a.f0 b.f0) c.f1) (fmul (fsub a.f1 b.f1) c.f0) = fsub (fadd (fmul a.f0 c.f1) (fmul a.f1 c.f0)) (fadd (fmul b.f0 c.f1) (fmul b.f1 c.f0))
    unfold fadd fmul fsub
    simp only [e_al, e_ar, e_ml, e_mr, e_sl, e_sr]
    congr 1; grind
theorem zero_emul (c : E) : emul zE c = zE := by
  refine E.ext_ ?_ ?_
  · show fadd (fmul 0 c.f0) (fmul 3 (fmul 0 c.f1)) = 0
    unfold fadd fmul; simp
  · show fadd (fmul 0 c.f1) (fmul 0 c.f0) = 0
    unfold fadd fmul; simp
def sumE : List E → E
  | [] => zE
  | x :: xs => eadd x (sumE xs)
theorem ok_sum : ∀ l, okE (sumE l)
  | [] => ok_zero
  | _ :: _ => ok_add _ _
theorem sum_append {b : List E} : ∀ a : List E, sumE (a ++ b) = eadd (sumE a) (sumE b)
  | [] => (zero_eadd (ok_sum b)).symm
  | x :: xs => by rw [List.cons_append, sumE, sum_append xs, sumE, eadd_assoc]
theorem sum_mul (p : E) : ∀ l : List E, sumE (l.map fun x => emul x p) = emul (sumE l) p
  | [] => (zero_emul p).symm
  | x :: xs => by rw [List.map_cons, sumE, sum_mul p xs, sumE, emul_add]
def dotL (x y : List E) : E := sumE (List.zipWith emul x y)
theorem wAll_snoc (p : E) : ∀ (ps L : List E), wAll L (ps ++ [p]) = wNext (wAll L ps) p
  | [], L => rfl
  | q :: qs, L => wAll_snoc p qs _
theorem dot_scaled (x W : List E) (s : E) : ∀ _ : x.length = W.length, dotL x (W.map fun w => emul w s) = emul (dotL x W) s := by
  intro h
  unfold dotL
  rw [← sum_mul]
  congr 1
  refine List.ext_getElem (by simp) fun i h3 h4 => ?_
  simp only [List.getElem_zipWith, List.getElem_map]
  rw [emul_assoc]
theorem line_mix (a b p : E) (ha : okE a) : eadd (emul a (esub (eof 1) p)) (emul b p) = eadd a (emul (esub b a) p) := by
  have e1 : emul a (esub (eof 1) p) = esub a (emul a p) := by rw [emul_comm, emul_sub, one_emul ha, emul_comm p]
  rw [e1, emul_sub]
  refine E.ext_ ?_ ?_
  · show fadd (fsub a.f0 (emul a p).f0) (emul b p).f0 = fadd a.f0 (fsub (emul b p).f0 (emul a p).f0)
    unfold fadd fsub; omega
  · show fadd (fsub a.f1 (emul a p).f1) (emul b p).f1 = fadd a.f1 (fsub (emul b p).f1 (emul a p).f1)
    unfold fadd fsub; omega
end Go.Proofs.Ytlfnfalckfggkaa.PT
end
section
/- What is drawn from bytes: the numbers and elements that the laws draw are of the field. -/
namespace Go.Proofs.Ytlfnfalckfggkaa.PT
open Go.RowKit Go.Proofs.YtlfnfalckfggkaaW.PrintWords Go.Proofs.YtlfnfalckfggkaaW.PrintLast Go.Proofs.YtlfnfalckfggkaaW.PrintMore
set_option linter.unusedVariables false
set_option linter.unusedSimpArgs false
def bytesL (l : List Int) : Prop := ∀ x ∈ l, 0 ≤ x ∧ x ≤ 255
theorem bytesL_rd {l : List Int} (h : bytesL l) {i : Int} (h0 : 0 ≤ i) (h1 : i < l.length) : 0 ≤ rd l i ∧ rd l i ≤ 255 := by
  show 0 ≤ l.getD i.toNat 0 ∧ l.getD i.toNat 0 ≤ 255
  rw [getD_at (show i.toNat < l.length by omega)]
  exact h _ (List.getElem_mem _)
def stOK (p s : Int) (b : Int) : Prop := 0 ≤ p ∧ p ≤ b ∧ 0 ≤ s ∧ s < 2147483648
theorem byte_ok {l : List Int} (h : bytesL l) {p s b : Int} (hs : stOK p s b) (hb : b ≤ 1000000000) : ∃ v s', spec_l00Src_byte.f l p s = some (v, p + 1, s') ∧ 0 ≤ v ∧ v ≤ 255 ∧ stOK (p + 1) s' (b + 1) := by
  obtain ⟨h0, h1, h2, h3⟩ := hs
  unfold spec_l00Src_byte.f
  rw [if_pos (by omega)]
  by_cases h4 : p < (l.length : Int)
  · have hr := bytesL_rd h h0 h4
    rw [if_pos h4, if_pos hr]
    exact ⟨_, _, rfl, hr.1, hr.2, by unfold stOK; omega⟩
  · rw [if_neg h4]
    by_cases h5 : 2999 < p
    · rw [if_pos h5]; exact ⟨_, _, rfl, by omega, by omega, by unfold stOK; omega⟩
    · rw [if_neg h5]
      refine ⟨_, _, rfl, by omega, by omega, ?_⟩
      unfold stOK spec_l00Src_byte.next; omega
theorem next_ok {l : List Int} (h : bytesL l) {p s b a : Int} (hs : stOK p s b) (hb : b ≤ 1000000000) (ha : 2 ≤ a) (ha2 : a ≤ 256) : ∃ v s', spec_l00Src_next.f l p s a = some (v, p + 1, s') ∧ 0 ≤ v ∧ v < a ∧ v ≤ 255 ∧ stOK (p + 1) s' (b + 1) := by
  obtain ⟨v, s', e, h0, h1, h2⟩ := byte_ok h hs hb
  unfold spec_l00Src_next.f
  rw [if_neg (by omega), if_pos ha2, e]
  simp only [bS]
  rw [if_neg (by omega), tmod_nn h0]
  have hm : v % a ≤ v := by
    rcases Int.lt_or_le v a with h | h
    · rw [Int.emod_eq_of_lt h0 h]; exact Int.le_refl _
    · have := Int.emod_lt_of_pos v (show 0 < a by omega); omega
  exact ⟨_, _, rfl, Int.emod_nonneg _ (by omega), Int.emod_lt_of_pos _ (by omega), by omega, h2⟩
theorem chance_ok {l : List Int} (h : bytesL l) {p s b : Int} (hs : stOK p s b) (hb : b ≤ 1000000000) : ∃ v s', spec_l00Src_chance.f l p s 4 = some (v, p + 1, s') ∧ stOK (p + 1) s' (b + 1) := by
  obtain ⟨v, s', e, _, _, _, h2⟩ := next_ok h hs hb (a := 4) (by omega) (by omega)
  unfold spec_l00Src_chance.f
  rw [e]
  exact ⟨_, _, rfl, h2⟩
theorem field_l0 {l : List Int} (h : bytesL l) (d : Nat) : ∀ (k i : Nat) (v p s b : Int), i + d = 5 → d < k → inF v → stOK p s b → b + d ≤ 1000000000 →
    ∃ v' p' s', spec_l00Src_field.l0 k v i l p s = some (v', p', s') ∧ inF v' ∧ stOK p' s' (b + d) := by
  induction d with
  | zero =>
    intro k i v p s b hi hk hv hs hb
    obtain ⟨k, rfl⟩ : ∃ m, k = m + 1 := ⟨k - 1, by omega⟩
    simp only [spec_l00Src_field.l0]
    rw [if_neg (by omega)]
    exact ⟨_, _, _, rfl, hv, by unfold stOK at *; omega⟩
  | succ d ih =>
    intro k i v p s b hi hk hv hs hb
    obtain ⟨k, rfl⟩ : ∃ m, k = m + 1 := ⟨k - 1, by omega⟩
    obtain ⟨u, s', e, h0, h1, h2, h3⟩ := next_ok h hs (by omega) (a := 256) (by omega) (by omega)
    simp only [spec_l00Src_field.l0]
    rw [if_pos (by omega), e]
    simp only [bS]
    unfold inF at hv
    rw [w64 (n := v * 256) (by omega) (by omega), w64 (n := v * 256 + u) (by omega) (by omega), tmod_nn (by omega), w64 (by omega) (by omega), show (i : Int) + 1 = ((i + 1 : Nat) : Int) by omega]
    obtain ⟨v', p', s'', e2, hv', hs'⟩ := ih k (i + 1) ((v * 256 + u) % 2130706433) (p + 1) s' (b + 1) (by omega) (by omega) (by unfold inF; omega) h3 (by omega)
    exact ⟨v', p', s'', e2, hv', by unfold stOK at *; omega⟩
theorem field_ok {l : List Int} (h : bytesL l) {p s b : Int} (hs : stOK p s b) (hb : b ≤ 900000000) {k : Nat} (hk : 10 < k) : ∃ v p' s', spec_l00Src_field.f k l p s = some (v, p', s') ∧ inF v ∧ stOK p' s' (b + 10) := by
  obtain ⟨u, s1, e1, h0, h1, _, h2⟩ := next_ok h hs (by omega) (a := 5) (by omega) (by omega)
  unfold spec_l00Src_field.f
  rw [e1]
  simp only [bS]
  by_cases hu : u = 0
  · obtain ⟨v, s2, e2, h3, h4, _, h5⟩ := next_ok h h2 (by omega) (a := 4) (by omega) (by omega)
    rw [if_pos hu, e2]
    simp only [bS]
    exact ⟨_, _, _, rfl, by unfold inF; omega, by unfold stOK at *; omega⟩
  · rw [if_neg hu]
    by_cases hu1 : u = 1
    · obtain ⟨v, s2, e2, h3, h4, _, h5⟩ := next_ok h h2 (by omega) (a := 3) (by omega) (by omega)
      rw [if_pos hu1, e2]
      simp only [bS]
      rw [w64 (by omega) (by omega)]
      exact ⟨_, _, _, rfl, by unfold inF; omega, by unfold stOK at *; omega⟩
    · rw [if_neg hu1]
      obtain ⟨v', p', s', e2, hv, h5⟩ := field_l0 h 5 k 0 0 (p + 1) s1 (b + 1) (by omega) (by omega) inF_0 h2 (by omega)
      rw [Int.natCast_zero] at e2
      exact ⟨v', p', s', e2, hv, by unfold stOK at *; omega⟩
theorem ext_ok {l : List Int} (h : bytesL l) {p s b : Int} (hs : stOK p s b) (hb : b ≤ 800000000) {k : Nat} (hk : 10 < k) : ∃ (x : E) (p' s' : Int), spec_l00Src_ext.f k l p s = some (x.f0, x.f1, p', s') ∧ okE x ∧ stOK p' s' (b + 30) := by
  obtain ⟨c, s1, e1, h1⟩ := chance_ok h hs (by omega)
  obtain ⟨u, p2, s2, e2, hu, h2⟩ := field_ok h h1 (by omega) hk
  unfold spec_l00Src_ext.f
  rw [e1]
  simp only [bS]
  by_cases hc : c = true
  · rw [if_pos hc, e2]
    simp only [bS]
    exact ⟨⟨u, 0⟩, p2, s2, rfl, ⟨hu, inF_0⟩, by unfold stOK at *; omega⟩
  · obtain ⟨v, p3, s3, e3, hv, h3⟩ := field_ok h h2 (by omega) hk
    rw [if_neg hc, e2]
    simp only [bS]
    rw [e3]
    simp only [bS]
    exact ⟨⟨u, v⟩, p3, s3, rfl, ⟨hu, hv⟩, by unfold stOK at *; omega⟩
theorem source_ok (l : List Int) : ∃ s, spec_l00Source.f l = some (l, 0, s) ∧ stOK 0 s 0 := by
  unfold spec_l00Source.f
  exact ⟨_, rfl, by unfold stOK; omega⟩
theorem exts_l0 {l : List Int} (h : bytesL l) (n : Nat) (hn : n ≤ 4096) (d : Nat) : ∀ (i : Nat) (a : List E) (p s b : Int), i + d = n → a.length = i → okL a → stOK p s b → b ≤ 30 * i →
    ∃ q : List E, (okL q ∧ q.length = n) ∧ ∀ k, d + 10 < k → ∃ p' s', spec_l00Src_exts.l0 k (n : Int) a i l p s = some (q, p', s') := by
  induction d with
  | zero =>
    intro i a p s b hi ha hoa hs hb
    refine ⟨a, ⟨hoa, by omega⟩, fun k hk => ?_⟩
    obtain ⟨k, rfl⟩ : ∃ m, k = m + 1 := ⟨k - 1, by omega⟩
    simp only [spec_l00Src_exts.l0]
    rw [if_neg (by omega)]; exact ⟨_, _, rfl⟩
  | succ d ih =>
    intro i a p s b hi ha hoa hs hb
    obtain ⟨x, p', s', e, hx, hs'⟩ := ext_ok h hs (by omega) (k := 11) (by omega)
    obtain ⟨q, hq, hk2⟩ := ih (i + 1) (a ++ [x]) p' s' (b + 30) (by omega) (by simp; omega) (okL_app hoa (okL_one hx)) hs' (by omega)
    refine ⟨q, hq, fun k hk => ?_⟩
    obtain ⟨k, rfl⟩ : ∃ m, k = m + 1 := ⟨k - 1, by omega⟩
    have e' : spec_l00Src_ext.f k l p s = some (x.f0, x.f1, p', s') := by
      obtain ⟨x2, p2, s2, e2, _, _⟩ := ext_ok h hs (by omega) (k := k) (by omega)
      have hm : ∀ m, spec_l00Src_ext.f 11 l p s = some (x.f0, x.f1, p', s') → spec_l00Src_ext.f (11 + m) l p s = some (x.f0, x.f1, p', s') := by
        intro m h11
        induction m with
        | zero => exact h11
        | succ m ihm =>
          exact spec_l00Src_ext.mono l p s (11 + m) _ ihm
      obtain ⟨m, rfl⟩ : ∃ m, k = 11 + m := ⟨k - 11, by omega⟩
      exact hm m e
    simp only [spec_l00Src_exts.l0]
    rw [if_pos (by omega), e']
    simp only [bS]
    rw [if_pos (by omega), w64 (by omega) (by omega), show (i : Int) + 1 = ((i + 1 : Nat) : Int) by omega]
    exact hk2 k (by omega)
theorem ExtsOf_ok {l : List Int} (h : bytesL l) (n : Nat) (hn : n ≤ 4096) : ∃ q : List E, (okL q ∧ q.length = n) ∧ ∀ k, n + 20 < k → spec_ExtsOf.f k l (n : Int) = some q := by
  obtain ⟨s, e, hs⟩ := source_ok l
  obtain ⟨q, hq, hk2⟩ := exts_l0 h n hn n 0 [] 0 s 0 (by omega) rfl okL_nil hs (by omega)
  refine ⟨q, hq, fun k hk => ?_⟩
  obtain ⟨p', s', e2⟩ := hk2 k (by omega)
  unfold spec_ExtsOf.f spec_l00Src_exts.f
  rw [e]
  simp only [bS]
  rw [Int.natCast_zero] at e2
  rw [e2]
  simp only [bS]
theorem at_ok {l : List Int} (h : bytesL l) (hl : l.length ≤ 1048576) {a n : Int} (ha : 0 ≤ a) (ha2 : a ≤ 10) (hn : 0 ≤ n) (hn2 : n ≤ 1000000) : ∃ t, laws_at.f l a n = some t ∧ 0 ≤ t ∧ (t < n ∨ t = 0) := by
  unfold laws_at.f
  by_cases h1 : n ≤ 1
  · rw [if_pos h1]; exact ⟨0, rfl, by omega, by omega⟩
  · rw [if_neg h1]
    by_cases h2 : (l.length : Int) = 0
    · rw [if_pos h2, if_neg (by omega), w64 (by omega) (by omega), tmod_nn (by omega)]
      exact ⟨_, rfl, Int.emod_nonneg _ (by omega), Or.inl (Int.emod_lt_of_pos _ (by omega))⟩
    · have hp : 0 < (l.length : Int) := by omega
      have m0 := Int.emod_nonneg a (show (l.length : Int) ≠ 0 by omega)
      have m1 := Int.emod_lt_of_pos a hp
      have m2 := Int.emod_nonneg (a + 1) (show (l.length : Int) ≠ 0 by omega)
      have m3 := Int.emod_lt_of_pos (a + 1) hp
      have r1 := bytesL_rd h m0 m1
      have r2 := bytesL_rd h m2 m3
      have d0 : 0 ≤ a / (l.length : Int) := Int.ediv_nonneg ha (by omega)
      have d1 : a / (l.length : Int) ≤ a := Int.ediv_le_self _ ha
      rw [if_neg h2, tmod_nn ha, w64 (n := a + 1) (by omega) (by omega), tmod_nn (by omega), tdiv_nn ha, if_pos m0, if_pos m1, if_pos m2, if_pos m3, if_neg (by omega),
        w64 (n := rd l (a % (l.length : Int))) (by omega) (by omega), w64 (n := rd l (a % (l.length : Int)) * 31) (by omega) (by omega), w64 (n := rd l ((a + 1) % (l.length : Int))) (by omega) (by omega),
        w64 (n := _ + rd l ((a + 1) % (l.length : Int))) (by omega) (by omega), w64 (n := a / (l.length : Int)) (by omega) (by omega), w64 (n := _ + a / (l.length : Int)) (by omega) (by omega), tmod_nn (by omega)]
      exact ⟨_, rfl, Int.emod_nonneg _ (by omega), Or.inl (Int.emod_lt_of_pos _ (by omega))⟩
end Go.Proofs.Ytlfnfalckfggkaa.PT
end
section
/- The greater field's operations as the laws call them, and tables as values. -/
namespace Go.Proofs.Ytlfnfalckfggkaa.PT
open Go.RowKit Go.Proofs.YtlfnfalckfggkaaW.PrintWords Go.Proofs.YtlfnfalckfggkaaW.PrintLast Go.Proofs.YtlfnfalckfggkaaW.PrintMore
set_option linter.unusedVariables false
set_option linter.unusedSimpArgs false
theorem tableB {n : Nat} (hn : n ≤ 6) {x : List E} (hx : okL x) (hl : x.length = 2 ^ n) : (pow2B x.length 64 && okLB x) = true := by
  rw [(okLB_iff x).2 hx, Bool.and_true, hl]
  rcases (show n = 0 ∨ n = 1 ∨ n = 2 ∨ n = 3 ∨ n = 4 ∨ n = 5 ∨ n = 6 by omega) with h | h | h | h | h | h | h <;> subst h <;> decide
theorem dot_l0 (x y : List E) (hx : okL x) (hy : okL y) (hn : x.length = y.length) (hl : x.length ≤ 4096) (d : Nat) : ∀ (k i : Nat) (r : E), i + d = x.length → d < k → okE r →
    impl_dot.l0 k y x (x.length : Int) i r.f0 r.f1 = some ((eadd r (dotL (x.drop i) (y.drop i))).f0, (eadd r (dotL (x.drop i) (y.drop i))).f1) := by
  induction d with
  | zero =>
    intro k i r hi hk hr
    obtain ⟨k, rfl⟩ : ∃ m, k = m + 1 := ⟨k - 1, by omega⟩
    simp only [impl_dot.l0]
    have e : dotL (x.drop i) (y.drop i) = zE := by unfold dotL; rw [List.drop_eq_nil_of_le (show x.length ≤ i by omega)]; rfl
    rw [if_neg (by omega), e, eadd_zero hr]
  | succ d ih =>
    intro k i r hi hk hr
    obtain ⟨k, rfl⟩ : ∃ m, k = m + 1 := ⟨k - 1, by omega⟩
    have hlt : i < x.length := by omega
    have hlt2 : i < y.length := by omega
    have h1 : okE x[i] := hx _ (List.getElem_mem _)
    have h2 : okE y[i] := hy _ (List.getElem_mem _)
    simp only [impl_dot.l0]
    rw [if_pos (show (i : Int) < (x.length : Int) by omega), if_pos (show 0 ≤ (i : Int) by omega), if_pos (show (i : Int) < (x.length : Int) by omega), if_pos (show (i : Int) < (y.length : Int) by omega), rdE_at hlt, rdE_at hlt2, impl_times_eq h1 h2]
    simp only [bS]
    rw [impl_plus_eq hr (ok_mul _ _)]
    simp only [bS]
    rw [w64 (by omega) (by omega), show (i : Int) + 1 = ((i + 1 : Nat) : Int) by omega, ih k (i + 1) _ (by omega) (by omega) (ok_add _ _)]
    have e : dotL (x.drop i) (y.drop i) = eadd (emul x[i] y[i]) (dotL (x.drop (i + 1)) (y.drop (i + 1))) := by unfold dotL; rw [List.drop_eq_getElem_cons hlt, List.drop_eq_getElem_cons hlt2]; rfl
    rw [e, eadd_assoc]
theorem TableAt_eq {n : Nat} (hn : n ≤ 6) {x p : List E} (hx : okL x) (hl : x.length = 2 ^ n) (hp : okL p) (hpn : p.length = n) {k : Nat} (hk : 5000 < k) : impl_TableAt.f k x p = some ((dotL x (eqTab p)).f0, (dotL x (eqTab p)).f1, 0) := by
  obtain ⟨k, rfl⟩ : ∃ m, k = m + 1 + 1 := ⟨k - 2, by omega⟩
  have hb : 2 ^ n ≤ 64 := Nat.le_trans (Nat.pow_le_pow_right (by omega) hn) (by decide)
  have hpt : pointB p = true := by unfold pointB; rw [(okLB_iff p).2 hp, decide_eq_true (by omega)]; rfl
  unfold impl_TableAt.f
  rw [if_neg (by omega), decide_eq_false (by omega)]
  simp only [impl_TableAt.j0, Bool.false_eq_true, if_false]
  rw [impl_TableOK_eq, tableB hn hx hl, isPoint_eq, hpt]
  simp only [bS, if_true, Bool.not_true, impl_TableAt.j1, Bool.false_eq_true, if_false]
  rw [hpn, Go.Proofs.Ytlfnfalckfggkaa.PT.shl_small (by omega), if_pos (by omega), eqTable_eq hp (by omega) (by omega)]
  simp only [bS]
  have e := dot_l0 x (eqTab p) hx (eqTab_ok p) (by rw [eqTab_length, hpn]; exact hl) (by omega) x.length k 0 zE (by omega) (by omega) ok_zero
  unfold impl_dot.f
  have e' : impl_dot.l0 k (eqTab p) x (x.length : Int) 0 0 0 = _ := e
  rw [e', List.drop_zero, List.drop_zero, zero_eadd (show okE (dotL x (eqTab p)) from ok_sum _)]
  simp only [bS]
end Go.Proofs.Ytlfnfalckfggkaa.PT
end
section
/- The equality weight's sums and its values at places of noughts and ones; a table bound variable by variable. -/
namespace Go.Proofs.Ytlfnfalckfggkaa.PT
open Go.RowKit Go.Proofs.YtlfnfalckfggkaaW.PrintWords Go.Proofs.YtlfnfalckfggkaaW.PrintLast Go.Proofs.YtlfnfalckfggkaaW.PrintMore
set_option linter.unusedVariables false
set_option linter.unusedSimpArgs false
theorem eqTab_snoc (ps : List E) (p : E) : eqTab (ps ++ [p]) = (eqTab ps).map (fun w => emul w (esub (eof 1) p)) ++ (eqTab ps).map (fun w => emul w p) := wAll_snoc p ps _
theorem last_of {n : Nat} {ps : List E} (h : ps.length = n + 1) : ∃ qs p, ps = qs ++ [p] ∧ qs.length = n := by
  have hne : ps ≠ [] := by intro h0; rw [h0] at h; cases h
  refine ⟨ps.dropLast, ps.getLast hne, (List.dropLast_concat_getLast _).symm, ?_⟩
  rw [List.length_dropLast]; omega
theorem emul_zero (x : E) : emul x zE = zE := by rw [emul_comm, zero_emul]
/-- The place k as a point of noughts and ones. -/
def bitP (k n : Nat) : List E := (List.range n).map fun i => eof ((k / 2 ^ i % 2 : Nat) : Int)
theorem bitP_length (k n : Nat) : (bitP k n).length = n := by simp [bitP]
theorem bitP_succ (k n : Nat) : bitP k (n + 1) = bitP k n ++ [eof ((k / 2 ^ n % 2 : Nat) : Int)] := by simp [bitP, List.range_succ]
theorem bit_or (m : Nat) : m % 2 = 0 ∨ m % 2 = 1 := by omega
theorem bitP_ok (k n : Nat) : okL (bitP k n) := by
  intro y hy
  obtain ⟨i, _, rfl⟩ := List.mem_map.mp hy
  refine ok_of ?_
  have := bit_or (k / 2 ^ i)
  unfold inF; omega
/-! tables at points -/
theorem dot_snoc (n : Nat) (lo hi qs : List E) (p : E) (h1 : lo.length = 2 ^ n) (h2 : hi.length = 2 ^ n) (hq : qs.length = n) :
    dotL (lo ++ hi) (eqTab (qs ++ [p])) = eadd (dotL lo (eqTab qs)) (emul (esub (dotL hi (eqTab qs)) (dotL lo (eqTab qs))) p) := by
  have l3 := eqTab_length qs
  rw [hq] at l3
  rw [eqTab_snoc]
  have e : dotL (lo ++ hi) ((eqTab qs).map (fun w => emul w (esub (eof 1) p)) ++ (eqTab qs).map (fun w => emul w p)) = eadd (dotL lo ((eqTab qs).map (fun w => emul w (esub (eof 1) p)))) (dotL hi ((eqTab qs).map (fun w => emul w p))) := by
    unfold dotL
    rw [List.zipWith_append (by simp; omega), sum_append]
  rw [e, dot_scaled lo _ _ (by omega), dot_scaled hi _ _ (by omega), line_mix (dotL lo (eqTab qs)) (dotL hi (eqTab qs)) p (ok_sum _)]
theorem dot_place : ∀ (n k : Nat) (x : List E), x.length = 2 ^ n → okL x → dotL x (eqTab (bitP k n)) = x.getD (k % 2 ^ n) zE
  | 0, k, x, hl, hx => by
    obtain ⟨a, rfl⟩ := List.length_eq_one_iff.mp hl
    have ha : okE a := hx a (by simp)
    rw [Nat.pow_zero, Nat.mod_one]
    show eadd (emul a (eof 1)) zE = a
    rw [emul_one ha, eadd_zero ha]
  | n + 1, k, x, hl, hx => by
    obtain ⟨lo, hi, rfl, h1, h2⟩ := split_half hl
    have hlo : okL lo := fun y hy => hx y (List.mem_append_left _ hy)
    have hhi : okL hi := fun y hy => hx y (List.mem_append_right _ hy)
    have hm : k % 2 ^ n < 2 ^ n := Nat.mod_lt _ (Nat.two_pow_pos n)
    rw [bitP_succ, dot_snoc n lo hi _ _ h1 h2 (bitP_length k n), dot_place n k lo h1 hlo, dot_place n k hi h2 hhi, Nat.mod_pow_succ, getD_at (show k % 2 ^ n < lo.length by omega), getD_at (show k % 2 ^ n < hi.length by omega)]
    have g1 : okE (lo[k % 2 ^ n]'(by omega)) := hlo _ (List.getElem_mem _)
    have g2 : okE (hi[k % 2 ^ n]'(by omega)) := hhi _ (List.getElem_mem _)
    rcases bit_or (k / 2 ^ n) with hb | hb
    · rw [hb, show eof ((0 : Nat) : Int) = zE from rfl, emul_zero, eadd_zero g1, Nat.mul_zero, Nat.add_zero, getD_at (by simp; omega), List.getElem_append_left (by omega)]
    · rw [hb, show eof ((1 : Nat) : Int) = eof 1 from rfl, emul_one (ok_sub _ _), eadd_comm, sub_add g2, Nat.mul_one, getD_at (by simp; omega), List.getElem_append_right (by omega)]
      congr 1; omega
/-! folded -/
def foldL (r : E) : List E → List E
  | x :: y :: t => eadd x (emul r (esub y x)) :: foldL r t
  | _ => []
theorem foldL_length (r : E) : ∀ (m : Nat) (x : List E), x.length = 2 * m → (foldL r x).length = m
  | 0, x, h => by
    obtain rfl := List.length_eq_zero_iff.mp h
    rfl
  | m + 1, x :: y :: t, h => by rw [foldL, List.length_cons, foldL_length r m t (by simp at h; omega)]
  | m + 1, [x], h => by simp at h; omega
  | m + 1, [], h => by simp at h
theorem foldL_ok (r : E) : ∀ (m : Nat) (x : List E), x.length = 2 * m → okL (foldL r x)
  | 0, x, h => by
    obtain rfl := List.length_eq_zero_iff.mp h
    exact okL_nil
  | m + 1, x :: y :: t, h => by
    intro z hz
    rw [foldL] at hz
    rcases List.mem_cons.mp hz with h1 | h1
    · rw [h1]; exact ok_add _ _
    · exact foldL_ok r m t (by simp at h; omega) z h1
  | m + 1, [x], h => by simp at h; omega
  | m + 1, [], h => by simp at h
theorem foldL_append (r : E) (b : List E) : ∀ (m : Nat) (a : List E), a.length = 2 * m → foldL r (a ++ b) = foldL r a ++ foldL r b
  | 0, a, h => by
    obtain rfl := List.length_eq_zero_iff.mp h
    rfl
  | m + 1, x :: y :: t, h => by
    rw [List.cons_append, List.cons_append, foldL, foldL, foldL_append r b m t (by simp at h; omega), List.cons_append]
  | m + 1, [x], h => by simp at h; omega
  | m + 1, [], h => by simp at h
theorem dot_fold : ∀ (n : Nat) (qs : List E) (p : E) (x : List E), qs.length = n → x.length = 2 ^ (n + 1) → okL x → dotL x (eqTab (p :: qs)) = dotL (foldL p x) (eqTab qs)
  | 0, qs, p, x, hq, hl, hx => by
    obtain rfl := List.length_eq_zero_iff.mp hq
    obtain ⟨lo, hi, rfl, h1, h2⟩ := split_half hl
    obtain ⟨a, rfl⟩ := List.length_eq_one_iff.mp h1
    obtain ⟨b, rfl⟩ := List.length_eq_one_iff.mp h2
    have ha : okE a := hx a (by simp)
    have hb : okE b := hx b (by simp)
    have e := dot_snoc 0 [a] [b] [] p rfl rfl rfl
    have f : ∀ c : E, okE c → dotL [c] (eqTab []) = c := by
      intro c hc
      show eadd (emul c (eof 1)) zE = c
      rw [emul_one hc, eadd_zero hc]
    rw [f a ha, f b hb] at e
    refine Eq.trans e ?_
    show _ = dotL [eadd a (emul p (esub b a))] (eqTab [])
    rw [f _ (ok_add _ _), emul_comm p]
  | n + 1, qs, p, x, hq, hl, hx => by
    obtain ⟨rs, q, rfl, hr⟩ := last_of hq
    obtain ⟨lo, hi, rfl, h1, h2⟩ := split_half hl
    have hlo : okL lo := fun y hy => hx y (List.mem_append_left _ hy)
    have hhi : okL hi := fun y hy => hx y (List.mem_append_right _ hy)
    have e1 : lo.length = 2 * 2 ^ n := by rw [h1, Nat.pow_succ]; omega
    have e2 : hi.length = 2 * 2 ^ n := by rw [h2, Nat.pow_succ]; omega
    rw [show p :: (rs ++ [q]) = (p :: rs) ++ [q] from rfl, dot_snoc (n + 1) lo hi (p :: rs) q h1 h2 (by simp; omega), dot_fold n rs p lo hr h1 hlo, dot_fold n rs p hi hr h2 hhi, foldL_append p hi (2 ^ n) lo e1,
      dot_snoc n (foldL p lo) (foldL p hi) rs q (foldL_length p _ _ e1) (foldL_length p _ _ e2) hr]
/-! as the program has them -/
theorem pointB_of {l : List E} (h : okL l) (hn : l.length ≤ 6) : pointB l = true := by
  unfold pointB; rw [(okLB_iff l).2 h, decide_eq_true hn]; rfl
theorem foldT_val (x0 : List E) (h0 : okL x0) (hn : x0.length ≤ 4096) (z : E) (hz : okE z) (d : Nat) : ∀ (i : Nat) (a : List E), i + 2 * d = x0.length → a.length ≤ i →
    ∀ k, d < k → impl_foldTable.l0 k x0 a i z.f0 z.f1 = some (a ++ foldL z (x0.drop i)) := by
  induction d with
  | zero =>
    intro i a hi ha k hk
    obtain ⟨k, rfl⟩ : ∃ m, k = m + 1 := ⟨k - 1, by omega⟩
    simp only [impl_foldTable.l0]
    rw [if_neg (by omega), List.drop_eq_nil_of_le (by omega), foldL, List.append_nil]
    all_goals simp
  | succ d ih =>
    intro i a hi ha k hk
    have w1 : wrap64 ((i : Int) + 1) = ((i + 1 : Nat) : Int) := by rw [w64 (by omega) (by omega)]; omega
    have w2 : wrap64 ((i : Int) + 2) = ((i + 2 : Nat) : Int) := by rw [w64 (by omega) (by omega)]; omega
    have g1 : i < x0.length := by omega
    have g2 : i + 1 < x0.length := by omega
    have h1 : okE x0[i] := h0 _ (List.getElem_mem _)
    have h2 : okE x0[i + 1] := h0 _ (List.getElem_mem _)
    obtain ⟨k, rfl⟩ : ∃ m, k = m + 1 := ⟨k - 1, by omega⟩
    simp only [impl_foldTable.l0]
    rw [w1, w2, if_pos (by omega), if_pos (by omega), if_pos (by omega), if_pos (by omega), rdE_at g1, rdE_at g2, between_eq h1 h2 hz]
    simp only [bS]
    rw [if_pos (by omega), ih (i + 2) (a ++ [_]) (by omega) (by simp; omega) k (by omega), List.append_assoc]
    rw [List.drop_eq_getElem_cons g1, List.drop_eq_getElem_cons g2, foldL]
    rfl
theorem FoldTable_eq {n : Nat} (hn : n ≤ 5) {x : List E} (hx : okL x) (hl : x.length = 2 ^ (n + 1)) {z : E} (hz : okE z) {k : Nat} (hk : 100 < k) : impl_FoldTable.f k x z.f0 z.f1 = some (foldL z x, 0) := by
  have hb : 2 ^ n ≤ 32 := Nat.le_trans (Nat.pow_le_pow_right (by omega) hn) (by decide)
  have h0 : 0 < 2 ^ n := Nat.two_pow_pos n
  have hl2 : x.length = 2 * 2 ^ n := by rw [hl, Nat.pow_succ]; omega
  obtain ⟨k, rfl⟩ : ∃ m, k = m + 1 := ⟨k - 1, by omega⟩
  unfold impl_FoldTable.f
  rw [if_neg (by omega), impl_TableOK_eq, tableB (n := n + 1) (by omega) hx hl, impl_ExtOK_eq, etaE, (okB_iff z).2 hz]
  simp only [bS, if_true, Bool.not_true, impl_FoldTable.j0, Bool.false_eq_true, if_false]
  rw [if_neg (by omega)]
  unfold impl_foldTable.f
  have e := foldT_val x hx (by omega) z hz (2 ^ n) 0 [] (by omega) (by simp) k (by omega)
  rw [Int.natCast_zero, List.drop_zero, List.nil_append] at e
  rw [e]
  simp only [bS]
theorem specTableAt_eq {n : Nat} (hn : n ≤ 6) {x p : List E} (hx : okL x) (hl : x.length = 2 ^ n) (hp : okL p) (hpn : p.length = n) {k : Nat} (hk : 5000 < k) : spec_TableAt.f k x p = impl_TableAt.f k x p := by
  obtain ⟨k, rfl⟩ : ∃ m, k = m + 1 + 1 := ⟨k - 2, by omega⟩
  have hb : 2 ^ n ≤ 64 := Nat.le_trans (Nat.pow_le_pow_right (by omega) hn) (by decide)
  have hu : IntKind.u64.wrap (p.length : Int) = (p.length : Int) := by simp only [IntKind.wrap, IntKind.bits, IntKind.signed]; simp; omega
  have hs : shl .i64 1 (p.length : Int) = ((2 ^ p.length : Nat) : Int) := Go.Proofs.Ytlfnfalckfggkaa.PT.shl_small (by omega)
  unfold spec_TableAt.f impl_TableAt.f
  rw [if_neg (by omega), if_neg (by omega), decide_eq_false (by omega)]
  simp only [spec_TableAt.j0, impl_TableAt.j0, Bool.false_eq_true, if_false]
  rw [spec_TableOK_eq (by omega) (by omega), impl_TableOK_eq, tableB hn hx hl, l06Point_eq (by omega), isPoint_eq, pointB_of hp (by omega)]
  simp only [bS, if_true, Bool.not_true, spec_TableAt.j1, impl_TableAt.j1, Bool.false_eq_true, if_false]
  rw [hu, hs, if_pos (by omega), if_pos (by rw [hpn]; omega), if_pos (by rw [hpn]; omega)]
  unfold spec_l06At.f impl_dot.f
  rw [l06Eq_eq hp (by omega) (by omega), eqTable_eq hp (by omega) (by omega)]
  simp only [bS]
  obtain ⟨q, e1, e2⟩ := at_l0 x (eqTab p) hx (eqTab_ok p) (by rw [eqTab_length, hpn]; omega) (by omega) x.length k 0 zE (by omega) (by omega) ok_zero
  have e1' : spec_l06At.l0 k x (eqTab p) 0 0 0 = some q := e1
  have e2' : impl_dot.l0 k (eqTab p) x (x.length : Int) 0 0 0 = some q := e2
  rw [e1', e2']
end Go.Proofs.Ytlfnfalckfggkaa.PT
end
section
/- A table's polynomial has the table's values at its places, and is bound variable by variable. -/
namespace Go.Proofs.Ytlfnfalckfggkaa.fnTable
open Go.Proofs.Ytlfnfalckfggkaa.PT Go.RowKit Go.Proofs.YtlfnfalckfggkaaO Go.Proofs.YtlfnfalckfggkaaW.PrintWords Go.Proofs.YtlfnfalckfggkaaW.PrintLast Go.Proofs.YtlfnfalckfggkaaW.PrintMore
set_option linter.unusedSimpArgs false
theorem bytes_of {l : List Int} (h : ListGood (IntGood .u8) l) : bytesL l := by
  intro x hx
  have e := h.2 x hx
  have e2 : (Lit.int .u8 x).wf = true := e
  simp only [Lit.wf, IntKind.min, IntKind.max, IntKind.signed, IntKind.bits] at e2
  simp at e2
  omega
theorem bit_val0 : ∀ m : Fin 64, ∀ i : Fin 6, Go.bits .and .i64 (shr .i64 (m.val : Int) (i.val : Int)) 1 = ((m.val / 2 ^ i.val % 2 : Nat) : Int) := by decide +kernel
theorem bit_val {m i : Nat} (hm : m < 64) (hi : i < 6) : Go.bits .and .i64 (shr .i64 (m : Int) (i : Int)) 1 = ((m / 2 ^ i % 2 : Nat) : Int) := bit_val0 ⟨m, hm⟩ ⟨i, hi⟩
theorem law_l0 (n : Nat) (hn : n ≤ 5) (t p : List E) (m : Nat) (hm : m < 64) (e a b a' b' : Int) (d : Nat) : ∀ (k i : Nat), i + d = n → d < k →
    laws_FnTable.l0 k (n : Int) t p e (m : Int) (bitP m i) i a b a' b' = laws_FnTable.l0 (k - d) (n : Int) t p e (m : Int) (bitP m n) (n : Int) a b a' b' := by
  induction d with
  | zero =>
    intro k i hi hk
    rw [show i = n by omega, Nat.sub_zero]
  | succ d ih =>
    intro k i hi hk
    obtain ⟨k, rfl⟩ : ∃ m, k = m + 1 := ⟨k - 1, by omega⟩
    have hu : IntKind.u64.wrap (i : Int) = (i : Int) := by
      simp only [IntKind.wrap, IntKind.bits, IntKind.signed]; simp; omega
    have hb := bitP_length m i
    have e := ih k (i + 1) (by omega) (by omega)
    rw [show k + 1 - (d + 1) = k - d by omega, ← e, bitP_succ, laws_FnTable.l0]
    rw [if_pos (show (i : Int) < (n : Int) by omega), hu, if_pos (show 0 ≤ (i : Int) by omega), if_pos (by omega), bit_val hm (by omega), w64 (by omega) (by omega), show (i : Int) + 1 = ((i + 1 : Nat) : Int) by omega]
    rfl
theorem law_l1 (n : Nat) (hn : n ≤ 5) (t p : List E) (ht : okL t) (htl : t.length = 2 ^ n) (hp : okL p) (hpn : p.length = n) (m : Nat) (hm : m < t.length) (v w : E) (hw : t.getD m zE = w) (d : Nat) : ∀ (k i : Nat) (b : List E), i + d = n → d + 200 < k → okL b → b.length = 2 ^ d → dotL b (eqTab (p.drop i)) = v →
    laws_FnTable.l1 k (n : Int) t p 0 (m : Int) 0 b i v.f0 v.f1 v.f0 v.f1 w.f0 w.f1 = some true := by
  have hb : 2 ^ n ≤ 32 := Nat.le_trans (Nat.pow_le_pow_right (by omega) hn) (by decide)
  induction d with
  | zero =>
    intro k i b hi hk hok hbl hv
    obtain ⟨k, rfl⟩ : ∃ m, k = m + 1 := ⟨k - 1, by omega⟩
    obtain ⟨c, rfl⟩ := List.length_eq_one_iff.mp hbl
    have hc : okE c := hok c (by simp)
    rw [List.drop_eq_nil_of_le (by omega)] at hv
    have hv2 : eadd (emul c (eof 1)) zE = v := hv
    rw [emul_one hc, eadd_zero hc] at hv2
    rw [getD_at hm] at hw
    subst hv2 hw
    simp only [laws_FnTable.l1]
    rw [if_neg (by omega), rdE_at hm, show rd_T42 [c] 0 = c from rfl]
    simp only [beq_self_eq_true, Bool.and_true, if_true]
    rw [if_pos (show 0 ≤ (m : Int) by omega), if_pos (show (m : Int) < (t.length : Int) by omega), if_pos (show (0 : Int) < (([c] : List E).length : Int) by simp), impl_TableOK_eq, tableB (n := n) (by omega) ht htl]
    simp only [bS]
  | succ d ih =>
    intro k i b hi hk hok hbl hv
    obtain ⟨k, rfl⟩ : ∃ m, k = m + 1 := ⟨k - 1, by omega⟩
    have hlt : i < p.length := by omega
    have h1 : okE p[i] := hp _ (List.getElem_mem _)
    have hd : 2 ^ (d + 1) ≤ 2 ^ n := Nat.pow_le_pow_right (by omega) (by omega)
    have hb2 : b.length = 2 * 2 ^ d := by rw [hbl, Nat.pow_succ]; omega
    have hfl := foldL_length p[i] (2 ^ d) b hb2
    rw [List.drop_eq_getElem_cons hlt, dot_fold d (p.drop (i + 1)) p[i] b (by rw [List.length_drop]; omega) hbl hok] at hv
    simp only [laws_FnTable.l1]
    rw [if_pos (show (i : Int) < (n : Int) by omega), if_pos (show 0 ≤ (i : Int) by omega), if_pos (by omega), rdE_at hlt, FoldTable_eq (n := d) (by omega) hok hbl h1 (by omega)]
    simp only [bS, if_true]
    rw [w64 (n := ((foldL p[i] b).length : Int) * 2) (by omega) (by omega), if_pos (by omega), w64 (by omega) (by omega), show (i : Int) + 1 = ((i + 1 : Nat) : Int) by omega]
    exact ih k (i + 1) (foldL p[i] b) (by omega) (by omega) (foldL_ok _ _ _ hb2) hfl hv
theorem pureFnTable : Pure := by
  intro x y hx hy
  have hbx := bytes_of hx
  have hby := bytes_of hy
  refine ⟨20000 + 1 + 1, ?_⟩
  generalize hK : 20000 = K
  unfold laws_FnTable.f
  by_cases h1 : (x.length : Int) > 1048576
  · rw [if_pos h1]; rfl
  rw [if_neg h1]
  by_cases h2 : (y.length : Int) > 1048576
  · rw [decide_eq_true h2]; rfl
  rw [decide_eq_false h2]
  simp only [laws_FnTable.j0, Bool.false_eq_true, if_false]
  obtain ⟨nn, en, hn0, hn1⟩ := at_ok hby (by omega) (a := 0) (n := 4) (by omega) (by omega) (by omega) (by omega)
  obtain ⟨n0, rfl⟩ := Int.eq_ofNat_of_zero_le hn0
  obtain ⟨n, hne⟩ : ∃ n, n = n0 + 1 := ⟨_, rfl⟩
  have hn : n ≤ 4 := by omega
  have hb : 2 ^ n ≤ 16 := Nat.le_trans (Nat.pow_le_pow_right (by omega) hn) (by decide)
  have hb0 := Nat.two_pow_pos n
  have ew : wrap64 (1 + (n0 : Int)) = (n : Int) := by rw [w64 (by omega) (by omega)]; omega
  have hu : IntKind.u64.wrap (n : Int) = (n : Int) := by
    simp only [IntKind.wrap, IntKind.bits, IntKind.signed]; simp; omega
  obtain ⟨t, ⟨ht, htl⟩, et⟩ := ExtsOf_ok hbx (2 ^ n) (by omega)
  obtain ⟨p, ⟨hp, hpl⟩, ep⟩ := ExtsOf_ok hby n (by omega)
  rw [en]
  simp only [bS]
  rw [ew, hu, if_pos (show 0 ≤ (n : Int) by omega), Go.Proofs.Ytlfnfalckfggkaa.PT.shl_small (by omega), et _ (by omega)]
  simp only [bS]
  rw [ep _ (by omega)]
  simp only [bS]
  rw [specTableAt_eq (n := n) (by omega) ht htl hp hpl (by omega), TableAt_eq (n := n) (by omega) ht htl hp hpl (by omega)]
  simp only [bS]
  obtain ⟨kk, ek, hk0, hk1⟩ := at_ok hby (by omega) (a := 1) (n := (t.length : Int)) (by omega) (by omega) (by omega) (by omega)
  obtain ⟨m, rfl⟩ := Int.eq_ofNat_of_zero_le hk0
  have hm : m < 2 ^ n := by omega
  rw [ek]
  simp only [bS]
  have g0 := law_l0 n (by omega) t p m (by omega) 0 (dotL t (eqTab p)).f0 (dotL t (eqTab p)).f1 (dotL t (eqTab p)).f0 (dotL t (eqTab p)).f1 n (K + 1) 0 (by omega) (by omega)
  rw [Int.natCast_zero] at g0
  refine Eq.trans g0 ?_
  obtain ⟨k3, hk3⟩ : ∃ m, K + 1 - n = m + 1 := ⟨K + 1 - n - 1, by omega⟩
  have hql := bitP_length m n
  rw [hk3]
  simp only [laws_FnTable.l0]
  rw [if_neg (by omega), TableAt_eq (n := n) (by omega) ht htl (bitP_ok m n) hql (by omega)]
  simp only [bS]
  have ha := dot_place n m t htl ht
  rw [Nat.mod_eq_of_lt hm] at ha
  have g1 := law_l1 n (by omega) t p ht htl hp hpl m (by omega) (dotL t (eqTab p)) (dotL t (eqTab (bitP m n))) ha.symm n k3 0 t (by omega) (by omega) ht htl (by rw [List.drop_zero])
  exact g1
end Go.Proofs.Ytlfnfalckfggkaa.fnTable
end
