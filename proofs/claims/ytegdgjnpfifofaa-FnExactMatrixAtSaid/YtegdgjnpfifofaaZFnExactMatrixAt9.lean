/- Part 9 of the proof of FnExactMatrixAt: what functions compute, shown step by step, and what that says (the claim's last text states the law). -/
import Derived.Test.YtegdgjnpfifofaaProg
import Derived.Test.YtegdgjnpfifofaaVMore
import Derived.Test.YtegdgjnpfifofaaVWords
import Derived.Test.YtegdgjnpfifofaaVLast
import Derived.Test.YtegdgjnpfifofaaVTab
import Derived.Test.YtegdgjnpfifofaaVQPut
import Derived.Test.YtegdgjnpfifofaaVApart
import Derived.Test.YtegdgjnpfifofaaVArr
import Derived.Test.YtegdgjnpfifofaaVZeros
import Derived.Test.YtegdgjnpfifofaaVFoot
import Derived.Test.YtegdgjnpfifofaaVKept
import Derived.Test.YtegdgjnpfifofaaVShare
import Derived.Test.YtegdgjnpfifofaaVN
import Derived.Test.YtegdgjnpfifofaaVRepsOne
import Derived.Test.YtegdgjnpfifofaaVGuard
import Derived.Test.YtegdgjnpfifofaaVNEv
import Derived.Test.YtegdgjnpfifofaaRows
import Derived.JoinedOf
import Derived.WalkKit
import Derived.ProofKit
import Derived.Below
import Derived.Deep.Draws
import Derived.Deep.AppendLies
import Derived.Maps.AppendAt
import Derived.OwnWalk
import Derived.Laws.BytesArg
import Derived.Laws.MakeOwn
import Derived.Laws.OwnMore
import Derived.Deep.OwnRows
import Derived.Tactics
import Derived.Lib.ConvBytes
import Derived.Laws.Slices
import Derived.KernelRfl
import Derived.RowKit3
import Derived.Deep.LoopGhost
import Derived.Deep.QuietTactic
import Derived.BigQuiet
import Derived.WideLaws
import Derived.Deep.DeepCutAuto
import Derived.Deep.CutBlock
import Derived.Deep.RegionHeld3
import Derived.Laws.Rows
import Derived.Lib.AppendStr
import Derived.ArgAppend
import Derived.Laws.IdiomCopy
import Derived.OrdersHeld
import Derived.Laws.BitsLemmas
import Derived.RowKit
import Derived.OpenShut
import Derived.ShutString
import Derived.ChangeOld
import Derived.SizedLaws
import Derived.Deep.Slices
import Derived.ChangeArms
import Derived.Test.YtegdgjnpfifofaaZFnExactMatrixAt8
section
/- The laws' own helpers: elements copied, compared, marked; and powers of two. -/
namespace Go.Proofs.Ytegdgjnpfifofaa.PT
open Go.RowKit Go.Proofs.YtegdgjnpfifofaaW.PrintWords Go.Proofs.YtegdgjnpfifofaaW.PrintLast Go.Proofs.YtegdgjnpfifofaaW.PrintMore
set_option linter.unusedVariables false
set_option linter.unusedSimpArgs false

theorem szExtS_big {l : List LE} {a : Int} (ha : 0 ≤ a) (ha2 : a ≤ 1048576) (hl : l.length ≤ 9223372036854775807) (h : a < l.length) : laws_szExtS.f l a = some (-1) := by
  unfold laws_szExtS.f; rw [w64 (by omega) (by omega), if_pos (by omega)]
theorem szExtS_fit {l : List LE} {a : Int} (ha2 : a ≤ 1048576) (h : (l.length : Int) ≤ a) : laws_szExtS.f l a = some (a - l.length) := by
  unfold laws_szExtS.f; rw [w64 (by omega) (by omega), if_neg (by omega)]
def conv (x : LE) : E := ⟨x.f0, x.f1⟩
def convL (l : List LE) : List E := l.map conv
theorem convL_length (l : List LE) : (convL l).length = l.length := by simp [convL]
theorem getD_at {α : Type} {l : List α} {z : α} {i : Nat} (h : i < l.length) : l.getD i z = l[i] := by
  rw [List.getD_eq_getElem?_getD, List.getElem?_eq_getElem h]; rfl
theorem rdE_at {l : List E} {i : Nat} (h : i < l.length) : rd_T61 l (i : Int) = l[i] := by rw [rdE, Int.toNat_natCast, getD_at h]
theorem rdL_at {l : List LE} {i : Nat} (h : i < l.length) : rd_T113 l (i : Int) = l[i] := by rw [rdL, Int.toNat_natCast, getD_at h]
theorem set_mid {α : Type} (a b : List α) (x y : α) : (a ++ x :: b).set a.length y = a ++ y :: b := by
  rw [List.set_append_right _ _ (Nat.le_refl _)]; simp
theorem toExtS_l0 (l : List LE) (hl : l.length ≤ 4611686018427387904) (d : Nat) : ∀ (k i : Nat), i + d = l.length → d < k →
    laws_toExtS.l0 k l (convL (l.take i) ++ List.replicate d z61) i = some (convL l) := by
  induction d with
  | zero =>
    intro k i hi hk
    obtain ⟨k, rfl⟩ : ∃ m, k = m + 1 := ⟨k - 1, by omega⟩
    simp only [laws_toExtS.l0]; rw [if_neg (by omega), List.take_of_length_le (by omega)]; simp
  | succ d ih =>
    intro k i hi hk
    obtain ⟨k, rfl⟩ : ∃ m, k = m + 1 := ⟨k - 1, by omega⟩
    have hlt : i < l.length := by omega
    have hlen : (convL (l.take i)).length = i := by rw [convL_length, List.length_take]; omega
    simp only [laws_toExtS.l0]
    rw [if_pos (by omega), if_pos (by omega), rdL_at hlt]
    simp only [laws_toExt.f, Option.bind_some]
    rw [if_pos (by rw [List.length_append, hlen, List.length_replicate]; omega), Int.toNat_natCast, List.replicate_succ]
    have hs := set_mid (convL (l.take i)) (List.replicate d z61) z61 (conv l[i])
    rw [hlen] at hs
    show laws_toExtS.l0 k l ((convL (l.take i) ++ z61 :: List.replicate d z61).set i (conv l[i])) _ = _
    rw [hs, w64 (by omega) (by omega), show (i : Int) + 1 = ((i + 1 : Nat) : Int) by omega]
    have := ih k (i + 1) (by omega) (by omega)
    rw [List.take_succ_eq_append_getElem hlt] at this
    simp only [convL, List.map_append, List.map_cons, List.map_nil, List.append_assoc, List.cons_append, List.nil_append] at this
    exact this
theorem toExtS_eq {l : List LE} (hl : l.length ≤ 1048576) {k : Nat} (hk : l.length < k) : laws_toExtS.f k l = some (convL l) := by
  unfold laws_toExtS.f
  rw [if_pos (by omega), if_pos (by simp; omega)]
  have := toExtS_l0 l (by omega) l.length k 0 (by omega) hk
  simpa [convL] using this
theorem eqExt_eq (x y : E) : laws_eqExt.f x.f0 x.f1 y.f0 y.f1 = some (decide (x = y)) := by
  unfold laws_eqExt.f
  by_cases h0 : x.f0 = y.f0
  · by_cases h1 : x.f1 = y.f1
    · rw [if_pos h0, if_pos h1, decide_eq_true (E.ext_ h0 h1)]
    · rw [if_pos h0, if_neg h1, decide_eq_false (fun e => h1 (by rw [e]))]
  · rw [if_neg h0, decide_eq_false (fun e => h0 (by rw [e]))]
theorem eqExtS_l0 (a : List E) (hl : a.length ≤ 4611686018427387904) (d : Nat) : ∀ (k i : Nat), i + d = a.length → d < k → laws_eqExtS.l0 k a a i = some true := by
  induction d with
  | zero =>
    intro k i hi hk
    obtain ⟨k, rfl⟩ : ∃ m, k = m + 1 := ⟨k - 1, by omega⟩
    simp only [laws_eqExtS.l0]; rw [if_neg (by omega)]
  | succ d ih =>
    intro k i hi hk
    obtain ⟨k, rfl⟩ : ∃ m, k = m + 1 := ⟨k - 1, by omega⟩
    simp only [laws_eqExtS.l0]
    rw [if_pos (by omega), if_pos (by omega), if_pos (by omega), eqExt_eq]
    simp only [Option.bind_some, decide_true, if_true]
    rw [w64 (by omega) (by omega), show (i : Int) + 1 = ((i + 1 : Nat) : Int) by omega]
    exact ih k (i + 1) (by omega) (by omega)
theorem eqExtS_refl {a : List E} (hl : a.length ≤ 4611686018427387904) {k : Nat} (hk : a.length < k) : laws_eqExtS.f k a a = some true := by
  unfold laws_eqExtS.f; rw [if_pos rfl]; exact eqExtS_l0 a hl a.length k 0 (by omega) hk

/-! marks: a list's cells are numbered from k on -/
def marked : Nat → Int → List E
  | 0, _ => []
  | n + 1, k => ⟨k, k + 1⟩ :: marked n (k + 2)
/-! powers of two -/
end Go.Proofs.Ytegdgjnpfifofaa.PT
end
section
/- Steps that several laws share: same answers compared, lists turned in place. -/
namespace Go.Proofs.Ytegdgjnpfifofaa.PT
open Go.RowKit Go.Proofs.YtegdgjnpfifofaaW.PrintWords Go.Proofs.YtegdgjnpfifofaaW.PrintLast Go.Proofs.YtegdgjnpfifofaaW.PrintMore
set_option linter.unusedVariables false
set_option linter.unusedSimpArgs false
/-- A step with its answer known, as a rewriting (no unfolding in the kernel). -/
theorem bS {α β : Type} (a : α) (f : α → Option β) : (some a).bind f = f a := Eq.trans (Eq.refl _) (Option.bind_some a f)
theorem eqExt_refl (a b : Int) : laws_eqExt.f a b a b = some true := by
  have h := eqExt_eq ⟨a, b⟩ ⟨a, b⟩
  simpa using h
theorem okL_rd {l : List E} (h : okL l) {i : Int} (hi : 0 ≤ i) (hl : i < l.length) : okE (rd_T61 l i) := okL_get h i.toNat (by omega)
theorem okL_one {x : E} (hx : okE x) : okL [x] := by intro y hy; rw [List.mem_singleton.mp hy]; exact hx
end Go.Proofs.Ytegdgjnpfifofaa.PT
end
section
/- The equality weight, at a point and as a table: both sides walk the same numbers. -/
namespace Go.Proofs.Ytegdgjnpfifofaa.PT
open Go.RowKit Go.Proofs.YtegdgjnpfifofaaW.PrintWords Go.Proofs.YtegdgjnpfifofaaW.PrintLast Go.Proofs.YtegdgjnpfifofaaW.PrintMore
set_option linter.unusedVariables false
set_option linter.unusedSimpArgs false
theorem l06One_eq : spec_l06One.f = some ((eof 1).f0, (eof 1).f1) := rfl
theorem l06Less_eq {x : E} (hx : okE x) : spec_l06Less.f x.f0 x.f1 = some ((esub (eof 1) x).f0, (esub (eof 1) x).f1) := by
  unfold spec_l06Less.f
  rw [l06One_eq]
  simp only [bS]
  rw [spec_l02Sub_eq (ok_of inF_1) hx]
  rfl
/-! the table -/
def wA (p x : E) : E := emul x (esub (eof 1) p)
def wB (p x : E) : E := emul x p
def wNext (L : List E) (p : E) : List E := L.map (wA p) ++ L.map (wB p)
theorem wNext_length (L : List E) (p : E) : (wNext L p).length = 2 * L.length := by simp [wNext]; omega
theorem wNext_ok (L : List E) (p : E) : okL (wNext L p) := by
  intro y hy
  rcases List.mem_append.mp hy with h | h <;> obtain ⟨z, _, rfl⟩ := List.mem_map.mp h <;> exact ok_mul _ _
def wAll : List E → List E → List E
  | L, [] => L
  | L, p :: ps => wAll (wNext L p) ps
theorem etaE (x : E) : (⟨x.f0, x.f1⟩ : E) = x := rfl
theorem take_map_set {α : Type} (f : α → α) (L : List α) (z : α) (i : Nat) (h : i < L.length) :
    ((L.take i).map f ++ List.replicate (L.length - i) z).set i (f L[i]) = (L.take (i + 1)).map f ++ List.replicate (L.length - (i + 1)) z := by
  have e : L.length - i = (L.length - (i + 1)) + 1 := by omega
  have hl : ((L.take i).map f).length = i := by simp; omega
  rw [e, List.replicate_succ]
  have := set_mid ((L.take i).map f) (List.replicate (L.length - (i + 1)) z) z (f L[i])
  rw [hl] at this
  rw [this, List.take_succ_eq_append_getElem h, List.map_append]
  simp only [List.map_cons, List.map_nil, List.append_assoc, List.cons_append, List.nil_append]
theorem specEq_l1 (x0 L : List E) (h0 : okL x0) (hL : okL L) (j : Nat) (hj : j < x0.length) (hn : x0.length ≤ 64) (hm : L.length ≤ 1048576) (d : Nat) : ∀ (k i : Nat), i + d = L.length → d < k →
    spec_l06Eq.l1 k x0 L j (((L.take i).map (wA x0[j]) ++ List.replicate (L.length - i) zE) ++ ((L.take i).map (wB x0[j]) ++ List.replicate (L.length - i) zE)) i
    = spec_l06Eq.l0 (k - d - 1) x0 (wNext L x0[j]) (wrap64 (j + 1)) := by
  induction d with
  | zero =>
    intro k i hi hk
    obtain ⟨k, rfl⟩ : ∃ m, k = m + 1 := ⟨k - 1, by omega⟩
    simp only [spec_l06Eq.l1]
    rw [if_neg (by omega), List.take_of_length_le (by omega)]
    have e : L.length - i = 0 := by omega
    rw [e]
    simp [wNext]
  | succ d ih =>
    intro k i hi hk
    obtain ⟨k, rfl⟩ : ∃ m, k = m + 1 := ⟨k - 1, by omega⟩
    have h1 : okE (rd_T61 L i) := okL_rd hL (by omega) (by omega)
    have h2 : okE (rd_T61 x0 j) := okL_rd h0 (by omega) (by omega)
    have g1 : rd_T61 L i = L[i]'(by omega) := rdE_at _
    have g2 : rd_T61 x0 j = x0[j] := rdE_at _
    have lA : ((L.take i).map (wA x0[j]) ++ List.replicate (L.length - i) zE).length = L.length := by simp; omega
    have lB : ((L.take i).map (wB x0[j]) ++ List.replicate (L.length - i) zE).length = L.length := by simp; omega
    simp only [spec_l06Eq.l1]
    rw [if_pos (by omega), if_pos (by omega), if_pos (by omega), if_pos (by omega), l06Less_eq h2]
    simp only [bS]
    rw [spec_l02Mul_eq h1 (ok_sub _ _), spec_l02Mul_eq h1 h2]
    simp only [bS]
    rw [w64 (n := (i : Int) + (L.length : Int)) (by omega) (by omega), if_pos (by rw [List.length_append, lA, lB]; omega), if_pos (by omega), if_pos (by rw [List.length_append, lA, lB]; omega), w64 (n := (i : Int) + 1) (by omega) (by omega)]
    have t1 : ((i : Int) + (L.length : Int)).toNat = L.length + i := by omega
    rw [t1, Int.toNat_natCast, List.set_append_left _ _ (by rw [lA]; omega), List.set_append_right _ _ (by rw [List.length_set, lA]; omega), List.length_set, lA, Nat.add_sub_cancel_left]
    have s1 : ((L.take i).map (wA x0[j]) ++ List.replicate (L.length - i) zE).set i (emul L[i] (esub (eof 1) x0[j])) = _ := take_map_set (wA x0[j]) L zE i (by omega)
    have s2 : ((L.take i).map (wB x0[j]) ++ List.replicate (L.length - i) zE).set i (emul L[i] x0[j]) = _ := take_map_set (wB x0[j]) L zE i (by omega)
    rw [g1, g2, etaE, etaE, s1, s2, show (i : Int) + 1 = ((i + 1 : Nat) : Int) by omega, ih k (i + 1) (by omega) (by omega)]
    congr 1
    omega
theorem implEq_l1 (x0 L : List E) (h0 : okL x0) (hL : okL L) (j : Nat) (hj : j < x0.length) (hn : x0.length ≤ 64) (hm : L.length ≤ 1048576) (d : Nat) : ∀ (k i : Nat), i + d = L.length → d < k →
    impl_eqTable.l1 k ((L.take i).map (wA x0[j])) ((L.take i).map (wB x0[j])) x0 (x0.length : Int) j L (L.length : Int) i (x0[j]).f0 (x0[j]).f1
    = impl_eqTable.l0 (k - d - 1) (wNext L x0[j]) x0 (x0.length : Int) (wrap64 (j + 1)) := by
  induction d with
  | zero =>
    intro k i hi hk
    obtain ⟨k, rfl⟩ : ∃ m, k = m + 1 := ⟨k - 1, by omega⟩
    simp only [impl_eqTable.l1]
    rw [if_neg (by omega), List.take_of_length_le (by omega), if_pos (by simp; omega)]
    simp [wNext]
  | succ d ih =>
    intro k i hi hk
    obtain ⟨k, rfl⟩ : ∃ m, k = m + 1 := ⟨k - 1, by omega⟩
    have h1 : okE (rd_T61 L i) := okL_rd hL (by omega) (by omega)
    have g1 : rd_T61 L i = L[i]'(by omega) := rdE_at _
    have h2 : okE x0[j] := h0 _ (List.getElem_mem _)
    simp only [impl_eqTable.l1]
    rw [if_pos (by omega), if_pos (by omega), if_pos (by omega), impl_one_eq]
    simp only [bS]
    rw [impl_minus_eq (ok_of inF_1) h2]
    simp only [bS]
    rw [impl_times_eq h1 (ok_sub _ _), impl_times_eq h1 h2]
    simp only [bS]
    rw [if_pos (by simp; omega), if_pos (by simp; omega), w64 (by omega) (by omega), g1]
    have e := ih k (i + 1) (by omega) (by omega)
    rw [List.take_succ_eq_append_getElem (by omega), List.map_append, List.map_append] at e
    rw [show (i : Int) + 1 = ((i + 1 : Nat) : Int) by omega]
    refine Eq.trans e ?_
    congr 1
    omega
theorem eqT_l0 (x0 : List E) (h0 : okL x0) (hn : x0.length ≤ 6) (d : Nat) : ∀ (ks ki j : Nat) (L : List E), j + d = x0.length → d * 200 < ks → d * 200 < ki → okL L → L.length = 2 ^ j →
    spec_l06Eq.l0 ks x0 L j = some (wAll L (x0.drop j)) ∧ impl_eqTable.l0 ki L x0 (x0.length : Int) j = some (wAll L (x0.drop j)) := by
  induction d with
  | zero =>
    intro ks ki j L hj hks hki hL hl
    obtain ⟨ks, rfl⟩ : ∃ m, ks = m + 1 := ⟨ks - 1, by omega⟩
    obtain ⟨ki, rfl⟩ : ∃ m, ki = m + 1 := ⟨ki - 1, by omega⟩
    simp only [spec_l06Eq.l0, impl_eqTable.l0]
    rw [if_neg (by omega), if_neg (by omega), List.drop_eq_nil_of_le (by omega)]
    exact ⟨rfl, rfl⟩
  | succ d ih =>
    intro ks ki j L hj hks hki hL hl
    obtain ⟨ks, rfl⟩ : ∃ m, ks = m + 1 := ⟨ks - 1, by omega⟩
    obtain ⟨ki, rfl⟩ : ∃ m, ki = m + 1 := ⟨ki - 1, by omega⟩
    have hlt : j < x0.length := by omega
    have hp : L.length ≤ 64 := by
      rw [hl]
      exact Nat.le_trans (Nat.pow_le_pow_right (by omega) (show j ≤ 6 by omega)) (by decide)
    have hp2 : (wNext L x0[j]).length = 2 ^ (j + 1) := by rw [wNext_length, hl, Nat.pow_succ]; omega
    simp only [spec_l06Eq.l0, impl_eqTable.l0]
    rw [w64 (n := 2 * (L.length : Int)) (by omega) (by omega), if_pos (by omega), if_pos (by omega), if_pos (by omega), if_pos (by omega), if_pos (by omega), if_pos (by omega), rdE_at hlt]
    have e1 := specEq_l1 x0 L h0 hL j hlt (by omega) (by omega) L.length ks 0 (by omega) (by omega)
    have e2 := implEq_l1 x0 L h0 hL j hlt (by omega) (by omega) L.length ki 0 (by omega) (by omega)
    have e3 : List.replicate (2 * (L.length : Int)).toNat zE = List.replicate L.length zE ++ List.replicate L.length zE := by
      rw [List.replicate_append_replicate]; congr 1; omega
    simp only [List.take_zero, List.map_nil, List.nil_append, Nat.sub_zero, Int.natCast_zero] at e1 e2
    rw [show List.replicate (2 * (L.length : Int)).toNat z61 = _ from e3, e1, e2, w64 (by omega) (by omega), show (j : Int) + 1 = ((j + 1 : Nat) : Int) by omega]
    have e4 := ih (ks - L.length - 1) (ki - L.length - 1) (j + 1) (wNext L x0[j]) (by omega) (by omega) (by omega) (wNext_ok _ _) hp2
    rw [List.drop_eq_getElem_cons hlt]
    exact e4
theorem wAll_ok (ps : List E) : ∀ L, okL L → okL (wAll L ps) := by
  induction ps with
  | nil => intro L h; exact h
  | cons p ps ih => intro L h; exact ih _ (wNext_ok _ _)
theorem wAll_length (ps : List E) : ∀ L, (wAll L ps).length = L.length * 2 ^ ps.length := by
  induction ps with
  | nil => intro L; simp [wAll]
  | cons p ps ih => intro L; rw [wAll, ih, wNext_length, List.length_cons, Nat.pow_succ, Nat.mul_assoc, Nat.mul_left_comm, Nat.mul_comm 2 (2 ^ _)]
def eqTab (x0 : List E) : List E := wAll [eof 1] x0
theorem eqTab_ok (x0 : List E) : okL (eqTab x0) := wAll_ok _ _ (okL_one (ok_of inF_1))
theorem eqTab_length (x0 : List E) : (eqTab x0).length = 2 ^ x0.length := by unfold eqTab; rw [wAll_length]; simp
theorem l06Eq_eq {x0 : List E} (h0 : okL x0) (hn : x0.length ≤ 6) {k : Nat} (hk : 1200 < k) : spec_l06Eq.f k x0 = some (eqTab x0) := by
  unfold spec_l06Eq.f
  rw [l06One_eq]
  have := (eqT_l0 x0 h0 hn x0.length k k 0 [eof 1] (by omega) (by omega) (by omega) (okL_one (ok_of inF_1)) rfl).1
  exact this
theorem eqTable_eq {x0 : List E} (h0 : okL x0) (hn : x0.length ≤ 6) {k : Nat} (hk : 1200 < k) : impl_eqTable.f k x0 = some (eqTab x0) := by
  unfold impl_eqTable.f
  rw [impl_one_eq]
  have := (eqT_l0 x0 h0 hn x0.length k k 0 [eof 1] (by omega) (by omega) (by omega) (okL_one (ok_of inF_1)) rfl).2
  exact this
end Go.Proofs.Ytegdgjnpfifofaa.PT
end
section
/- Entries and matrices: the laws' helpers, and what both sides answer. -/
namespace Go.Proofs.Ytegdgjnpfifofaa.PT
open Go.RowKit Go.Proofs.YtegdgjnpfifofaaW.PrintWords Go.Proofs.YtegdgjnpfifofaaW.PrintLast Go.Proofs.YtegdgjnpfifofaaW.PrintMore
set_option linter.unusedVariables false
set_option linter.unusedSimpArgs false
theorem rdEntryS_src {l : List S106} {i : Nat} (h : i < l.length) : rd_T106 l (i : Int) = l[i] := by
  show l.getD (i : Int).toNat z106 = l[i]
  rw [Int.toNat_natCast, getD_at h]
theorem rdEntryS {l : List S82} {i : Nat} (h : i < l.length) : rd_T82 l (i : Int) = l[i] := by
  show l.getD (i : Int).toNat z82 = l[i]
  rw [Int.toNat_natCast, getD_at h]
def convEntryS (l : List S106) : List S82 := l.map fun x => ⟨x.f0, x.f1, x.f2⟩
theorem convEntryS_length (l : List S106) : (convEntryS l).length = l.length := by simp [convEntryS]
theorem szEntryS_big {l : List S106} {a : Int} (ha : 0 ≤ a) (ha2 : a ≤ 1048576) (hl : l.length ≤ 9223372036854775807) (h : a < l.length) : laws_szEntryS.f l a = some (-1) := by
  unfold laws_szEntryS.f; rw [w64 (by omega) (by omega), if_pos (by omega)]
theorem szEntryS_fit {l : List S106} {a : Int} (ha2 : a ≤ 1048576) (h : (l.length : Int) ≤ a) : laws_szEntryS.f l a = some (a - l.length) := by
  unfold laws_szEntryS.f; rw [w64 (by omega) (by omega), if_neg (by omega)]
theorem toEntryS_l0 (l : List S106) (hl : l.length ≤ 1048576) (d : Nat) : ∀ (k i : Nat), i + d = l.length → d < k →
    laws_toEntryS.l0 k l (convEntryS (l.take i) ++ List.replicate d z82) i = some (convEntryS l) := by
  induction d with
  | zero =>
    intro k i hi hk
    obtain ⟨k, rfl⟩ : ∃ m, k = m + 1 := ⟨k - 1, by omega⟩
    simp only [laws_toEntryS.l0]; rw [if_neg (by omega), List.take_of_length_le (by omega)]; simp
  | succ d ih =>
    intro k i hi hk
    obtain ⟨k, rfl⟩ : ∃ m, k = m + 1 := ⟨k - 1, by omega⟩
    have hlt : i < l.length := by omega
    have hlen : (convEntryS (l.take i)).length = i := by rw [convEntryS_length, List.length_take]; omega
    simp only [laws_toEntryS.l0, laws_toEntry.f]
    rw [if_pos (by omega), if_pos (by omega), rdEntryS_src hlt]
    simp only [bS]
    rw [if_pos (by rw [List.length_append, hlen, List.length_replicate]; omega), Int.toNat_natCast, List.replicate_succ]
    have hs := fun y => set_mid (convEntryS (l.take i)) (List.replicate d z82) z82 y
    rw [hlen] at hs
    rw [hs, w64 (by omega) (by omega), show (i : Int) + 1 = ((i + 1 : Nat) : Int) by omega]
    have := ih k (i + 1) (by omega) (by omega)
    rw [List.take_succ_eq_append_getElem hlt] at this
    simp only [convEntryS, List.map_append, List.map_cons, List.map_nil, List.append_assoc, List.cons_append, List.nil_append] at this
    exact this
theorem toEntryS_eq {l : List S106} (hl : l.length ≤ 1048576) {k : Nat} (hk : l.length < k) : laws_toEntryS.f k l = some (convEntryS l) := by
  unfold laws_toEntryS.f
  rw [if_pos (by omega), if_pos (by omega)]
  have := toEntryS_l0 l (by omega) l.length k 0 (by omega) hk
  rw [Int.natCast_zero, List.take_zero] at this
  rw [Int.toNat_natCast]
  exact this
theorem eqEntry_refl (x : S82) : laws_eqEntry.f x.f0 x.f1 x.f2 x.f0 x.f1 x.f2 = some true := by
  unfold laws_eqEntry.f; rw [if_pos rfl, if_pos rfl, if_pos rfl]
theorem eqEntryS_l0 (a : List S82) (hl : a.length ≤ 1048576) (d : Nat) : ∀ (k i : Nat), i + d = a.length → d < k → laws_eqEntryS.l0 k a a i = some true := by
  induction d with
  | zero =>
    intro k i hi hk
    obtain ⟨k, rfl⟩ : ∃ m, k = m + 1 := ⟨k - 1, by omega⟩
    simp only [laws_eqEntryS.l0]; rw [if_neg (by omega)]
  | succ d ih =>
    intro k i hi hk
    obtain ⟨k, rfl⟩ : ∃ m, k = m + 1 := ⟨k - 1, by omega⟩
    simp only [laws_eqEntryS.l0]
    rw [if_pos (show (i : Int) < (a.length : Int) by omega), if_pos (show 0 ≤ (i : Int) by omega), if_pos (show (i : Int) < (a.length : Int) by omega), eqEntry_refl]
    simp only [bS, if_true]
    rw [w64 (by omega) (by omega), show (i : Int) + 1 = ((i + 1 : Nat) : Int) by omega]
    exact ih k (i + 1) (by omega) (by omega)
theorem eqEntryS_refl {a : List S82} (hl : a.length ≤ 1048576) {k : Nat} (hk : a.length < k) : laws_eqEntryS.f k a a = some true := by
  unfold laws_eqEntryS.f; rw [if_pos rfl]; exact eqEntryS_l0 a hl a.length k 0 (by omega) hk
/-! matrices -/
def befB (x y : S82) : Bool := decide (x.f0 < y.f0 ∨ (x.f0 = y.f0 ∧ x.f1 < y.f1))
theorem order_eq (x y : S82) {k : Nat} (hk : 5 < k) : ∃ r, impl_Entry_order.f k x.f0 x.f1 x.f2 y.f0 y.f1 y.f2 = some r ∧ (¬ r ≥ 0 ↔ befB x y = true) := by
  obtain ⟨k, rfl⟩ : ∃ m, k = m + 1 + 1 + 1 := ⟨k - 3, by omega⟩
  have cmp : ∀ a b : Int, cmp_Compare_int.f a b = some (if a < b then -1 else if a > b then 1 else 0) := by
    intro a b
    unfold cmp_Compare_int.f cmp_isNaN_int.f
    simp only [bne_self_eq_false, bS, Bool.false_eq_true, if_false]
    by_cases h : a < b
    · rw [if_pos h, if_pos h]
    · rw [if_neg h, if_neg h]
      by_cases h2 : a > b
      · rw [if_pos h2, if_pos h2]
      · rw [if_neg h2, if_neg h2]
  unfold impl_Entry_order.f
  rw [cmp, cmp]
  simp only [bS, cmp_Or_int.f]
  have w0 : wrap64 ((0 : Int) + 1) = 1 := w64 (by omega) (by omega)
  have w1 : wrap64 ((1 : Int) + 1) = 2 := w64 (by omega) (by omega)
  have r0 : ∀ p q : Int, rd [p, q] 0 = p := fun _ _ => rfl
  have r1 : ∀ p q : Int, rd [p, q] 1 = q := fun _ _ => rfl
  have hl : ∀ p q : Int, (([p, q] : List Int).length : Int) = 2 := fun _ _ => rfl
  simp only [cmp_Or_int.l0, hl, r0, r1, w0, w1]
  unfold befB
  by_cases h1 : x.f0 < y.f0
  · rw [if_pos h1]
    exact ⟨-1, by simp, by simp [h1]⟩
  · rw [if_neg h1]
    by_cases h2 : x.f0 > y.f0
    · rw [if_pos h2]
      refine ⟨1, by simp, ?_⟩
      simp only [decide_eq_true_eq]
      omega
    · rw [if_neg h2]
      by_cases h3 : x.f1 < y.f1
      · rw [if_pos h3]
        refine ⟨-1, by simp, ?_⟩
        simp only [decide_eq_true_eq]
        omega
      · rw [if_neg h3]
        by_cases h4 : x.f1 > y.f1
        · rw [if_pos h4]
          refine ⟨1, by simp, ?_⟩
          simp only [decide_eq_true_eq]
          omega
        · rw [if_neg h4]
          refine ⟨0, by simp, ?_⟩
          simp only [decide_eq_true_eq]
          omega
/-- All entries lie within r rows and c columns, are of the field and not nought, and stand in order. -/
def entB (r c : Int) (x : S82) : Bool := decide (0 ≤ x.f0 ∧ x.f0 ≤ r - 1) && decide (0 ≤ x.f1 ∧ x.f1 ≤ c - 1) && decide (1 ≤ x.f2 ∧ x.f2 ≤ 2130706432)
def matB (r c : Int) : List S82 → Bool
  | [] => true
  | [x] => entB r c x
  | x :: y :: zs => entB r c x && (befB x y && matB r c (y :: zs))
def matFrom (r c : Int) (l : List S82) (i : Nat) : Bool := (decide (i = 0) || decide (l.length ≤ i) || befB (l.getD (i - 1) z82) (l.getD i z82)) && matB r c (l.drop i)
theorem matFrom_step (r c : Int) (l : List S82) (i : Nat) (h : i < l.length) :
    matFrom r c l i = (entB r c l[i] && ((decide (i = 0) || befB (l.getD (i - 1) z82) l[i]) && matFrom r c l (i + 1))) := by
  unfold matFrom
  have e1 : decide (l.length ≤ i) = false := decide_eq_false (by omega)
  rw [e1, Bool.or_false, getD_at h, List.drop_eq_getElem_cons h]
  have e2 : decide (i + 1 = 0) = false := decide_eq_false (by omega)
  rw [e2, Bool.false_or, Nat.add_sub_cancel, getD_at h]
  by_cases h2 : l.length ≤ i + 1
  · rw [decide_eq_true h2, List.drop_eq_nil_of_le h2, Bool.true_or, Bool.true_and, matB, matB, Bool.and_true]
    cases entB r c l[i] <;> cases (decide (i = 0) || befB (l.getD (i - 1) z82) l[i]) <;> rfl
  · have h3 : i + 1 < l.length := by omega
    rw [decide_eq_false h2, Bool.false_or, getD_at h3, List.drop_eq_getElem_cons h3, matB]
    cases entB r c l[i] <;> cases (decide (i = 0) || befB (l.getD (i - 1) z82) l[i]) <;> rfl
theorem isMatrix_l0 (l : List S82) (hl : l.length ≤ 1048576) (r c : Int) (hr : 0 ≤ r) (hr2 : r ≤ 1000000) (hc : 0 ≤ c) (hc2 : c ≤ 1000000) (d : Nat) : ∀ (k i : Nat), i + d = l.length → d + 10 < k →
    impl_isMatrix.l0 k l r c l (l.length : Int) i = some (matFrom r c l i && decide (l.length ≤ 200)) := by
  induction d with
  | zero =>
    intro k i hi hk
    obtain ⟨k, rfl⟩ : ∃ m, k = m + 1 := ⟨k - 1, by omega⟩
    simp only [impl_isMatrix.l0]
    have e : matFrom r c l i = true := by unfold matFrom; rw [List.drop_eq_nil_of_le (by omega), decide_eq_true (show l.length ≤ i by omega)]; simp [matB]
    rw [if_neg (by omega), e, Bool.true_and]
    congr 1
    rw [Bool.eq_iff_iff, decide_eq_true_eq, decide_eq_true_eq]; omega
  | succ d ih =>
    intro k i hi hk
    obtain ⟨k, rfl⟩ : ∃ m, k = m + 1 := ⟨k - 1, by omega⟩
    have hlt : i < l.length := by omega
    simp only [impl_isMatrix.l0]
    rw [if_pos (show (i : Int) < (l.length : Int) by omega), if_pos (show 0 ≤ (i : Int) by omega), if_pos (show (i : Int) < (l.length : Int) by omega), rdEntryS hlt, impl_in_eq, impl_in_eq, impl_in_eq, matFrom_step r c l i hlt,
      w64 (n := r - 1) (by omega) (by omega), w64 (n := c - 1) (by omega) (by omega), w64 (n := (i : Int) + 1) (by omega) (by omega), show (i : Int) + 1 = ((i + 1 : Nat) : Int) by omega]
    simp only [bS]
    by_cases h1 : 0 ≤ (l[i]).f0 ∧ (l[i]).f0 ≤ r - 1
    · by_cases h2 : 0 ≤ (l[i]).f1 ∧ (l[i]).f1 ≤ c - 1
      · by_cases h3 : 1 ≤ (l[i]).f2 ∧ (l[i]).f2 ≤ 2130706432
        · have e : entB r c l[i] = true := by unfold entB; rw [decide_eq_true h1, decide_eq_true h2, decide_eq_true h3]; rfl
          rw [decide_eq_true h1, decide_eq_true h2, decide_eq_true h3, e]
          simp only [if_true, Bool.true_and]
          by_cases h4 : i = 0
          · rw [if_neg (by omega), decide_eq_true h4, Bool.true_or, Bool.true_and]
            exact ih k (i + 1) (by omega) (by omega)
          · have hp : i - 1 < l.length := by omega
            have ei : (i : Int) - 1 = ((i - 1 : Nat) : Int) := by omega
            rw [if_pos (by omega), w64 (n := (i : Int) - 1) (by omega) (by omega), ei, if_pos (by omega), if_pos (by omega), rdEntryS hp, decide_eq_false h4, Bool.false_or, getD_at hp]
            obtain ⟨q, e5, e6⟩ := order_eq l[i - 1] l[i] (k := k) (by omega)
            rw [e5]
            simp only [bS]
            by_cases h5 : q ≥ 0
            · have e7 : befB l[i - 1] l[i] = false := by
                rw [Bool.eq_false_iff]; intro h; exact (e6.2 h) h5
              rw [if_pos h5, e7]; rfl
            · rw [if_neg h5, e6.1 h5, Bool.true_and]
              exact ih k (i + 1) (by omega) (by omega)
        · have e : entB r c l[i] = false := by unfold entB; rw [decide_eq_false h3, Bool.and_false]
          rw [decide_eq_true h1, decide_eq_true h2, decide_eq_false h3, e]; rfl
      · have e : entB r c l[i] = false := by unfold entB; rw [decide_eq_false h2, Bool.and_false, Bool.false_and]
        rw [decide_eq_true h1, decide_eq_false h2, e]; rfl
    · have e : entB r c l[i] = false := by unfold entB; rw [decide_eq_false h1, Bool.false_and, Bool.false_and]
      rw [decide_eq_false h1, e]; rfl
def matOK (r c : Int) (l : List S82) : Bool := matB r c l && decide (l.length ≤ 200)
theorem isMatrix_eq {l : List S82} (hl : l.length ≤ 1048576) {r c : Int} (hr : 0 ≤ r) (hr2 : r ≤ 1000000) (hc : 0 ≤ c) (hc2 : c ≤ 1000000) {k : Nat} (hk : l.length + 10 < k) : impl_isMatrix.f k l r c = some (matOK r c l) := by
  have h := isMatrix_l0 l hl r c hr hr2 hc hc2 l.length k 0 (by omega) hk
  have e : matFrom r c l 0 = matB r c l := by unfold matFrom; rw [List.drop_zero]; simp
  rw [Int.natCast_zero, e] at h
  exact h
end Go.Proofs.Ytegdgjnpfifofaa.PT
end
section
/- Tables turned in place, folded, and read at a point: both sides walk the same numbers. -/
namespace Go.Proofs.Ytegdgjnpfifofaa.PT
open Go.RowKit Go.Proofs.YtegdgjnpfifofaaW.PrintWords Go.Proofs.YtegdgjnpfifofaaW.PrintLast Go.Proofs.YtegdgjnpfifofaaW.PrintMore
set_option linter.unusedVariables false
set_option linter.unusedSimpArgs false
/-! a table turned in place -/
/-! a table folded -/
/-! a table at a point -/
theorem shl_small0 : ∀ n : Fin 10, shl .i64 1 (n.val : Int) = ((2 ^ n.val : Nat) : Int) := by decide +kernel
theorem shl_small {n : Nat} (h : n < 10) : shl .i64 1 (n : Int) = ((2 ^ n : Nat) : Int) := shl_small0 ⟨n, h⟩
end Go.Proofs.Ytegdgjnpfifofaa.PT
end
section
/- Powers, inverses and the line: what the printed functions of chapter 2 come to. -/
namespace Go.Proofs.Ytegdgjnpfifofaa.PT
open Go.RowKit Go.Proofs.YtegdgjnpfifofaaW.PrintWords Go.Proofs.YtegdgjnpfifofaaW.PrintLast Go.Proofs.YtegdgjnpfifofaaW.PrintMore
set_option linter.unusedVariables false
set_option linter.unusedSimpArgs false
theorem e_al (a b : Int) : (a % 2130706433 + b) % 2130706433 = (a + b) % 2130706433 := by omega
theorem e_ar (a b : Int) : (a + b % 2130706433) % 2130706433 = (a + b) % 2130706433 := by omega
theorem e_ml (a b : Int) : (a % 2130706433 * b) % 2130706433 = (a * b) % 2130706433 := by rw [Int.mul_emod, Int.emod_emod_of_dvd _ (Int.dvd_refl _), ← Int.mul_emod]
theorem e_mr (a b : Int) : (a * (b % 2130706433)) % 2130706433 = (a * b) % 2130706433 := by rw [Int.mul_emod, Int.emod_emod_of_dvd _ (Int.dvd_refl _), ← Int.mul_emod]
end Go.Proofs.Ytegdgjnpfifofaa.PT
end
section
/- Words: their transform, its inverse, and a word folded: both sides walk the same numbers. -/
namespace Go.Proofs.Ytegdgjnpfifofaa.PT
open Go.RowKit Go.Proofs.YtegdgjnpfifofaaW.PrintWords Go.Proofs.YtegdgjnpfifofaaW.PrintLast Go.Proofs.YtegdgjnpfifofaaW.PrintMore
set_option linter.unusedVariables false
set_option linter.unusedSimpArgs false
theorem u64w {n : Int} (h0 : 0 ≤ n) (h1 : n ≤ 4611686018427387904) : IntKind.u64.wrap n = n := by
  simp only [IntKind.wrap, IntKind.bits, IntKind.signed]; simp; omega
/-! logarithms and roots -/
/-! a pair folded -/
/-! the transform -/
end Go.Proofs.Ytegdgjnpfifofaa.PT
end
section
/- The field's order is a prime: powers, inverses and the greater field's laws. -/
namespace Go.Proofs.Ytegdgjnpfifofaa.PT
open Go.RowKit Go.Proofs.YtegdgjnpfifofaaW.PrintWords Go.Proofs.YtegdgjnpfifofaaW.PrintLast Go.Proofs.YtegdgjnpfifofaaW.PrintMore
set_option linter.unusedVariables false
set_option linter.unusedSimpArgs false
theorem emul_comm (x y : E) : emul x y = emul y x := by
  refine E.ext_ ?_ ?_
  · show fadd (fmul x.f0 y.f0) (fmul 3 (fmul x.f1 y.f1)) = fadd (fmul y.f0 x.f0) (fmul 3 (fmul y.f1 x.f1))
    rw [fmul_comm x.f0, fmul_comm x.f1]
  · show fadd (fmul x.f0 y.f1) (fmul x.f1 y.f0) = fadd (fmul y.f0 x.f1) (fmul y.f1 x.f0)
    unfold fadd fmul
    simp only [e_al, e_ar, e_ml, e_mr]
    congr 1; grind
end Go.Proofs.Ytegdgjnpfifofaa.PT
end
section
/- Matrices times numbers, and matrices at points: both sides walk the same numbers. -/
namespace Go.Proofs.Ytegdgjnpfifofaa.PT
open Go.RowKit Go.Proofs.YtegdgjnpfifofaaW.PrintWords Go.Proofs.YtegdgjnpfifofaaW.PrintLast Go.Proofs.YtegdgjnpfifofaaW.PrintMore
set_option linter.unusedVariables false
set_option linter.unusedSimpArgs false
theorem matB_all {r c : Int} : ∀ {l : List S82}, matB r c l = true → ∀ x ∈ l, entB r c x = true
  | [], _, x, h => by cases h
  | [y], h, x, hx => by rw [List.mem_singleton.mp hx]; exact h
  | y :: z :: zs, h, x, hx => by
    rw [matB, Bool.and_eq_true, Bool.and_eq_true] at h
    rcases List.mem_cons.mp hx with rfl | hx
    · exact h.1
    · exact matB_all h.2.2 x hx
theorem entB_iff {r c : Int} {x : S82} (h : entB r c x = true) : (0 ≤ x.f0 ∧ x.f0 < r) ∧ (0 ≤ x.f1 ∧ x.f1 < c) ∧ inF x.f2 := by
  unfold entB at h
  rw [Bool.and_eq_true, Bool.and_eq_true, decide_eq_true_eq, decide_eq_true_eq, decide_eq_true_eq] at h
  unfold inF
  omega
theorem l10List_l0 (l : List S82) (hl : l.length ≤ 200) (s t : Nat) (hs : s ≤ 9) (ht : t ≤ 9) (d : Nat) : ∀ (k i : Nat), i + d = l.length → 2 * d < k →
    spec_l10List.l0 k l s t i = some (matFrom ((2 ^ s : Nat) : Int) ((2 ^ t : Nat) : Int) l i) := by
  have hps : 2 ^ s ≤ 512 := Nat.le_trans (Nat.pow_le_pow_right (by omega) hs) (by decide)
  have hpt : 2 ^ t ≤ 512 := Nat.le_trans (Nat.pow_le_pow_right (by omega) ht) (by decide)
  induction d with
  | zero =>
    intro k i hi hk
    obtain ⟨k, rfl⟩ : ∃ m, k = m + 1 := ⟨k - 1, by omega⟩
    simp only [spec_l10List.l0]
    have e : matFrom ((2 ^ s : Nat) : Int) ((2 ^ t : Nat) : Int) l i = true := by unfold matFrom; rw [List.drop_eq_nil_of_le (by omega), decide_eq_true (show l.length ≤ i by omega)]; simp [matB]
    rw [if_neg (by omega), e]
  | succ d ih =>
    intro k i hi hk
    obtain ⟨k, rfl⟩ : ∃ m, k = m + 1 + 1 := ⟨k - 2, by omega⟩
    have hlt : i < l.length := by omega
    have hr0 : (0 : Int) ≤ ((2 ^ s : Nat) : Int) := Int.natCast_nonneg _
    have hr1 : ((2 ^ s : Nat) : Int) ≤ 512 := Int.ofNat_le.mpr hps
    have hc0 : (0 : Int) ≤ ((2 ^ t : Nat) : Int) := Int.natCast_nonneg _
    have hc1 : ((2 ^ t : Nat) : Int) ≤ 512 := Int.ofNat_le.mpr hpt
    generalize hr : ((2 ^ s : Nat) : Int) = r at *
    generalize hc : ((2 ^ t : Nat) : Int) = c at *
    have es : shl .i64 1 (s : Int) = r := by rw [shl_small (by omega), hr]
    have et : shl .i64 1 (t : Int) = c := by rw [shl_small (by omega), hc]
    simp only [spec_l10List.l0]
    rw [if_pos (show (i : Int) < (l.length : Int) by omega), if_pos (show 0 ≤ (i : Int) by omega), u64w (n := (s : Int)) (by omega) (by omega), u64w (n := (t : Int)) (by omega) (by omega), if_pos (show 0 ≤ (s : Int) by omega), es, et, rdEntryS hlt, spec_l01In_eq, spec_l01In_eq, spec_l01In_eq, matFrom_step r c l i hlt,
      w64 (n := r - 1) (by omega) (by omega), w64 (n := c - 1) (by omega) (by omega)]
    simp only [bS]
    have bad : ∀ x y z, spec_l10List.j1 (k + 1) l s t i true x y z = some false := by intro x y z; simp only [spec_l10List.j1, if_true]
    by_cases h1 : 0 ≤ (l[i]).f0 ∧ (l[i]).f0 ≤ r - 1
    · rw [decide_eq_true h1]
      simp only [if_true]
      rw [if_pos (show 0 ≤ (t : Int) by omega)]
      by_cases h2 : 0 ≤ (l[i]).f1 ∧ (l[i]).f1 ≤ c - 1
      · rw [decide_eq_true h2]
        simp only [if_true]
        by_cases h3 : 1 ≤ (l[i]).f2 ∧ (l[i]).f2 ≤ 2130706432
        · have e : entB r c l[i] = true := by unfold entB; rw [decide_eq_true h1, decide_eq_true h2, decide_eq_true h3]; rfl
          rw [decide_eq_true h3, e]
          simp only [Bool.not_true, Bool.true_and, spec_l10List.j1, Bool.false_eq_true, if_false]
          rw [w64 (n := (i : Int) + 1) (by omega) (by omega), show (i : Int) + 1 = ((i + 1 : Nat) : Int) by omega]
          by_cases h4 : i = 0
          · rw [if_neg (by omega), decide_eq_true h4, Bool.true_or, Bool.true_and]
            exact ih k (i + 1) (by omega) (by omega)
          · have hp : i - 1 < l.length := by omega
            have ei : (i : Int) - 1 = ((i - 1 : Nat) : Int) := by omega
            rw [if_pos (by omega), w64 (n := (i : Int) - 1) (by omega) (by omega), ei, if_pos (by omega), if_pos (by omega), rdEntryS hp, decide_eq_false h4, Bool.false_or, getD_at hp]
            unfold befB
            by_cases h5 : (l[i - 1]).f0 > (l[i]).f0
            · rw [if_pos h5, decide_eq_false (by omega)]; rfl
            · rw [if_neg h5]
              by_cases h6 : (l[i - 1]).f0 = (l[i]).f0
              · rw [if_pos h6]
                by_cases h7 : (l[i - 1]).f1 ≥ (l[i]).f1
                · rw [if_pos h7, decide_eq_false (by omega)]; rfl
                · rw [if_neg h7, decide_eq_true (by omega), Bool.true_and]
                  exact ih k (i + 1) (by omega) (by omega)
              · rw [if_neg h6, decide_eq_true (by omega), Bool.true_and]
                exact ih k (i + 1) (by omega) (by omega)
        · have e : entB r c l[i] = false := by unfold entB; rw [decide_eq_false h3, Bool.and_false]
          rw [decide_eq_false h3, e, Bool.not_false, bad]; rfl
      · have e : entB r c l[i] = false := by unfold entB; rw [decide_eq_false h2, Bool.and_false, Bool.false_and]
        rw [decide_eq_false h2, e]
        simp only [Bool.false_eq_true, if_false]
        rw [bad]; rfl
    · have e : entB r c l[i] = false := by unfold entB; rw [decide_eq_false h1, Bool.false_and, Bool.false_and]
      rw [decide_eq_false h1, e]
      simp only [Bool.false_eq_true, if_false]
      rw [bad]; rfl
theorem l10List_eq {l : List S82} {s t : Nat} (hs : s ≤ 9) (ht : t ≤ 9) {k : Nat} (hk : 500 < k) : spec_l10List.f k l s t = some (matOK ((2 ^ s : Nat) : Int) ((2 ^ t : Nat) : Int) l) := by
  unfold spec_l10List.f matOK
  by_cases h : (l.length : Int) > 200
  · rw [if_pos h, decide_eq_false (by omega), Bool.and_false]
  · have e := l10List_l0 l (by omega) s t hs ht l.length k 0 (by omega) (by omega)
    have e2 : matFrom ((2 ^ s : Nat) : Int) ((2 ^ t : Nat) : Int) l 0 = matB ((2 ^ s : Nat) : Int) ((2 ^ t : Nat) : Int) l := by unfold matFrom; rw [List.drop_zero]; simp
    rw [Int.natCast_zero, e2] at e
    rw [if_neg h, decide_eq_true (by omega), Bool.and_true, e]
/-! at points -/
theorem matAt_l0 (l : List S82) (hl : l.length ≤ 4096) (u v : List E) (hu : okL u) (hv : okL v) (he : ∀ y ∈ l, entB (u.length : Int) (v.length : Int) y = true) (d : Nat) : ∀ (k i : Nat) (r : E), i + d = l.length → d < k → okE r →
    ∃ q : E, impl_MatrixAt.l0 k u v l (l.length : Int) i r.f0 r.f1 = some (q.f0, q.f1, 0) ∧ spec_l10At.l0 k l u v i r.f0 r.f1 = some (q.f0, q.f1) := by
  induction d with
  | zero =>
    intro k i r hi hk hr
    obtain ⟨k, rfl⟩ : ∃ m, k = m + 1 := ⟨k - 1, by omega⟩
    simp only [impl_MatrixAt.l0, spec_l10At.l0]
    rw [if_neg (by omega), if_neg (by omega)]; exact ⟨r, rfl, rfl⟩
  | succ d ih =>
    intro k i r hi hk hr
    obtain ⟨k, rfl⟩ : ∃ m, k = m + 1 := ⟨k - 1, by omega⟩
    have hlt : i < l.length := by omega
    obtain ⟨⟨a0, a1⟩, ⟨b0, b1⟩, hn⟩ := entB_iff (he _ (List.getElem_mem hlt))
    have h1 : okE (rd_T61 u (l[i]).f0) := okL_rd hu a0 a1
    have h2 : okE (rd_T61 v (l[i]).f1) := okL_rd hv b0 b1
    simp only [impl_MatrixAt.l0, spec_l10At.l0]
    rw [if_pos (show (i : Int) < (l.length : Int) by omega), if_pos (show 0 ≤ (i : Int) by omega), if_pos (show (i : Int) < (l.length : Int) by omega), rdEntryS hlt, if_pos a0, if_pos a1, if_pos b0, if_pos b1, impl_times_eq h1 h2,
      if_pos (show (i : Int) < (l.length : Int) by omega), if_pos (show 0 ≤ (i : Int) by omega), spec_l02Of_eq]
    simp only [bS]
    rw [impl_scaled_eq (ok_mul _ _) hn, if_pos a0, if_pos a1, if_pos b0, if_pos b1, spec_l02Mul_eq h1 h2]
    simp only [bS]
    rw [impl_plus_eq hr (ok_scale _ _), spec_l02Mul_eq (ok_of hn) (ok_mul _ _), emul_comm (eof _), emul_of]
    simp only [bS]
    rw [spec_l02Add_eq hr (ok_scale _ _)]
    simp only [bS]
    rw [w64 (by omega) (by omega), show (i : Int) + 1 = ((i + 1 : Nat) : Int) by omega]
    exact ih k (i + 1) _ (by omega) (by omega) (ok_add _ _)
end Go.Proofs.Ytegdgjnpfifofaa.PT
end
section
/- A matrix's value at points is alike on both sides, its arguments untouched. -/
namespace Go.Proofs.Ytegdgjnpfifofaa.fnExactMatrixAt
open Go.Proofs.Ytegdgjnpfifofaa.PT Go.RowKit Go.Proofs.YtegdgjnpfifofaaO Go.Proofs.YtegdgjnpfifofaaW.PrintWords Go.Proofs.YtegdgjnpfifofaaW.PrintLast Go.Proofs.YtegdgjnpfifofaaW.PrintMore
set_option linter.unusedSimpArgs false
theorem same (l : List S82) (x y : List E) (hl : l.length ≤ 1048576) (hx : x.length ≤ 1048576) (hy : y.length ≤ 1048576) {k : Nat} (hk : l.length + x.length + y.length + 100000 ≤ k) :
    ∃ r, spec_MatrixAt.f k l x y = some r ∧ impl_MatrixAt.f k l x y = some r := by
  obtain ⟨k, rfl⟩ : ∃ m, k = m + 1 + 1 := ⟨k - 2, by omega⟩
  unfold spec_MatrixAt.f impl_MatrixAt.f
  have big : ∃ r, spec_MatrixAt.j0 (k + 1 + 1) l x y true = some r ∧ impl_MatrixAt.j0 (k + 1 + 1) l x y true = some r := by
    simp only [spec_MatrixAt.j0, impl_MatrixAt.j0, if_true]; exact ⟨_, rfl, rfl⟩
  have bad : ∃ r, spec_MatrixAt.j1 (k + 1) l x y true = some r ∧ impl_MatrixAt.j1 (k + 1) l x y true = some r := by
    simp only [spec_MatrixAt.j1, impl_MatrixAt.j1, if_true]; exact ⟨_, rfl, rfl⟩
  by_cases h1 : (l.length : Int) > 4096
  · rw [if_pos h1, if_pos h1]; exact big
  rw [if_neg h1, if_neg h1]
  by_cases h2 : (x.length : Int) > 4096
  · rw [if_pos h2, if_pos h2]; exact big
  rw [if_neg h2, if_neg h2]
  by_cases h3 : (y.length : Int) > 4096
  · rw [decide_eq_true h3]; exact big
  rw [decide_eq_false h3]
  simp only [spec_MatrixAt.j0, impl_MatrixAt.j0, Bool.false_eq_true, if_false]
  rw [spec_l01In_eq, impl_in_eq]
  simp only [bS]
  by_cases h4 : 1 ≤ (x.length : Int) ∧ (x.length : Int) ≤ 5
  · rw [decide_eq_true h4]
    simp only [if_true]
    rw [spec_l01In_eq, impl_in_eq]
    simp only [bS]
    by_cases h5 : 1 ≤ (y.length : Int) ∧ (y.length : Int) ≤ 5
    · rw [decide_eq_true h5]
      simp only [Bool.not_true, spec_MatrixAt.j1, impl_MatrixAt.j1, Bool.false_eq_true, if_false]
      have hps : 2 ^ x.length ≤ 32 := Nat.le_trans (Nat.pow_le_pow_right (by omega) (show x.length ≤ 5 by omega)) (by decide)
      have hpt : 2 ^ y.length ≤ 32 := Nat.le_trans (Nat.pow_le_pow_right (by omega) (show y.length ≤ 5 by omega)) (by decide)
      rw [l10List_eq (by omega) (by omega) (by omega), Go.Proofs.Ytegdgjnpfifofaa.PT.shl_small (by omega), Go.Proofs.Ytegdgjnpfifofaa.PT.shl_small (by omega), isMatrix_eq hl (Int.natCast_nonneg _) (by omega) (Int.natCast_nonneg _) (by omega) (by omega)]
      simp only [bS]
      by_cases h6 : matOK ((2 ^ x.length : Nat) : Int) ((2 ^ y.length : Nat) : Int) l = true
      · rw [if_pos h6, if_pos h6, spec_l02List_eq (by omega) (by omega), impl_are_eq]
        simp only [bS]
        by_cases h7 : okLB x = true
        · rw [if_pos h7, if_pos h7, spec_l02List_eq (by omega) (by omega), impl_are_eq]
          simp only [bS]
          by_cases h8 : okLB y = true
          · have h9 : matB ((2 ^ x.length : Nat) : Int) ((2 ^ y.length : Nat) : Int) l = true := by unfold matOK at h6; rw [Bool.and_eq_true] at h6; exact h6.1
            have hkx := (okLB_iff x).1 h7
            have hky := (okLB_iff y).1 h8
            rw [if_pos h8, if_pos h8, eqTable_eq hkx (by omega) (by omega)]
            unfold spec_l10At.f
            rw [l06Eq_eq hkx (by omega) (by omega)]
            simp only [bS]
            rw [eqTable_eq hky (by omega) (by omega), l06Eq_eq hky (by omega) (by omega)]
            simp only [bS]
            have he := matB_all h9
            rw [← eqTab_length x, ← eqTab_length y] at he
            obtain ⟨q, e1, e2⟩ := matAt_l0 l (by omega) (eqTab x) (eqTab y) (eqTab_ok x) (eqTab_ok y) he l.length k 0 zE (by omega) (by omega) ok_zero
            have e1' : impl_MatrixAt.l0 k (eqTab x) (eqTab y) l (l.length : Int) 0 0 0 = some (q.f0, q.f1, 0) := e1
            have e2' : spec_l10At.l0 k l (eqTab x) (eqTab y) 0 0 0 = some (q.f0, q.f1) := e2
            rw [e1', e2']; exact ⟨_, rfl, rfl⟩
          · rw [if_neg h8, if_neg h8]; exact ⟨_, rfl, rfl⟩
        · rw [if_neg h7, if_neg h7]; exact ⟨_, rfl, rfl⟩
      · rw [if_neg h6, if_neg h6]; exact ⟨_, rfl, rfl⟩
    · rw [decide_eq_false h5]; exact bad
  · rw [decide_eq_false h4]
    simp only [Bool.false_eq_true, if_false]
    exact bad
theorem pureFnExactMatrixAt : Pure := by
  intro l x y hl hx hy
  by_cases h : (l.length : Int) ≤ 1048576
  · by_cases h2 : (x.length : Int) ≤ 1048576 - l.length
    · by_cases h3 : (y.length : Int) ≤ 1048576 - l.length - x.length
      · have hcl := convEntryS_length l
        have hcx := convL_length x
        have hcy := convL_length y
        refine ⟨(l.length + x.length + y.length + 100000) + 1, ?_⟩
        unfold laws_FnExactMatrixAt.f
        generalize hK : l.length + x.length + y.length + 100000 = K
        obtain ⟨r, e1, e2⟩ := same (convEntryS l) (convL x) (convL y) (by omega) (by omega) (by omega) (k := K + 1) (by omega)
        rw [szEntryS_fit (by omega) h]
        simp only [bS]
        rw [if_neg (by omega), szExtS_fit (by omega) h2]
        simp only [bS]
        rw [if_neg (by omega), szExtS_fit (by omega) h3]
        simp only [bS]
        rw [if_neg (by omega), toEntryS_eq (k := K + 1) (by omega) (by omega), toExtS_eq (k := K + 1) (by omega) (by omega), toExtS_eq (k := K + 1) (by omega) (by omega)]
        simp only [bS]
        rw [e1, e2]
        simp only [bS]
        rw [eqExt_refl]
        simp only [bS, if_true, bne_self_eq_false, laws_FnExactMatrixAt.j0, Bool.false_eq_true, if_false]
        rw [toEntryS_eq (k := K) (by omega) (by omega), toExtS_eq (k := K) (by omega) (by omega), toExtS_eq (k := K) (by omega) (by omega)]
        simp only [bS]
        rw [eqEntryS_refl (k := K) (by omega) (by omega)]
        simp only [bS, if_true]
        rw [eqExtS_refl (k := K) (by omega) (by omega)]
        simp only [bS, if_true]
        rw [eqExtS_refl (k := K) (by omega) (by omega)]
        simp only [bS, if_true]
      · refine ⟨1, ?_⟩
        unfold laws_FnExactMatrixAt.f
        rw [szEntryS_fit (by omega) h]
        simp only [bS]
        rw [if_neg (by omega), szExtS_fit (by omega) h2]
        simp only [bS]
        rw [if_neg (by omega), szExtS_big (by omega) (by omega) hy.1 (by omega)]
        simp
    · refine ⟨1, ?_⟩
      unfold laws_FnExactMatrixAt.f
      rw [szEntryS_fit (by omega) h]
      simp only [bS]
      rw [if_neg (by omega), szExtS_big (by omega) (by omega) hx.1 (by omega)]
      simp
  · refine ⟨1, ?_⟩
    unfold laws_FnExactMatrixAt.f
    rw [szEntryS_big (by omega) (by omega) hl.1 (by omega)]
    simp
end Go.Proofs.Ytegdgjnpfifofaa.fnExactMatrixAt
end
