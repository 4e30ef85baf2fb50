/- Part 6 of the proof of FnExactFoldWord: what functions compute, shown step by step, and what that says (the claim's last text states the law). -/
import Derived.Test.YtlfnfalckfggkaaProg
import Derived.Test.YtlfnfalckfggkaaWMore
import Derived.Test.YtlfnfalckfggkaaWWords
import Derived.Test.YtlfnfalckfggkaaWLast
import Derived.Test.YtlfnfalckfggkaaWTab
import Derived.Test.YtlfnfalckfggkaaWFour
import Derived.Test.YtlfnfalckfggkaaWQPut
import Derived.Test.YtlfnfalckfggkaaWApart
import Derived.Test.YtlfnfalckfggkaaWArr
import Derived.Test.YtlfnfalckfggkaaWZeros
import Derived.Test.YtlfnfalckfggkaaWFoot
import Derived.Test.YtlfnfalckfggkaaWKept
import Derived.Test.YtlfnfalckfggkaaWShare
import Derived.Test.YtlfnfalckfggkaaWN
import Derived.Test.YtlfnfalckfggkaaWFootNe
import Derived.Test.YtlfnfalckfggkaaWAt
import Derived.Test.YtlfnfalckfggkaaWEqStruct
import Derived.Test.YtlfnfalckfggkaaWRepsOne
import Derived.Test.YtlfnfalckfggkaaWInv
import Derived.Test.YtlfnfalckfggkaaWInvWords
import Derived.Test.YtlfnfalckfggkaaWGuard
import Derived.Test.YtlfnfalckfggkaaWNEv
import Derived.Test.YtlfnfalckfggkaaRows
import Derived.JoinedOf
import Derived.WalkKit
import Derived.ProofKit
import Derived.Below
import Derived.Deep.Draws
import Derived.Deep.AppendLies
import Derived.Maps.AppendAt
import Derived.OwnWalk
import Derived.Laws.BytesArg
import Derived.Laws.MakeOwn
import Derived.Laws.OwnMore
import Derived.Deep.OwnRows
import Derived.Tactics
import Derived.Lib.ConvBytes
import Derived.Laws.Slices
import Derived.KernelRfl
import Derived.RowKit3
import Derived.Deep.LoopGhost
import Derived.Deep.QuietTactic
import Derived.BigQuiet
import Derived.WideLaws
import Derived.Deep.DeepCutAuto
import Derived.Deep.CutBlock
import Derived.Deep.RegionHeld3
import Derived.Laws.Rows
import Derived.Lib.AppendStr
import Derived.ArgAppend
import Derived.Laws.IdiomCopy
import Derived.OrdersHeld
import Derived.Laws.BitsLemmas
import Derived.RowKit
import Derived.Shelf.Small.Bits
import Derived.Shelf.Strconv.Itoa0
import Derived.OpenShut
import Derived.ShutString
import Derived.ChangeOld
import Derived.SizedLaws
import Derived.Deep.Slices
import Derived.ChangeArms
import Derived.Test.YtlfnfalckfggkaaZFnExactFoldWord5
section
/- The laws' own helpers: elements copied, compared, marked; and powers of two. -/
namespace Go.Proofs.Ytlfnfalckfggkaa.PT
open Go.RowKit Go.Proofs.YtlfnfalckfggkaaW.PrintWords Go.Proofs.YtlfnfalckfggkaaW.PrintLast Go.Proofs.YtlfnfalckfggkaaW.PrintMore
set_option linter.unusedVariables false
set_option linter.unusedSimpArgs false

theorem szExtS_big {l : List LE} {a : Int} (ha : 0 ≤ a) (ha2 : a ≤ 1048576) (hl : l.length ≤ 9223372036854775807) (h : a < l.length) : laws_szExtS.f l a = some (-1) := by
  unfold laws_szExtS.f; rw [w64 (by omega) (by omega), if_pos (by omega)]
theorem szExtS_fit {l : List LE} {a : Int} (ha2 : a ≤ 1048576) (h : (l.length : Int) ≤ a) : laws_szExtS.f l a = some (a - l.length) := by
  unfold laws_szExtS.f; rw [w64 (by omega) (by omega), if_neg (by omega)]
def conv (x : LE) : E := ⟨x.f0, x.f1⟩
def convL (l : List LE) : List E := l.map conv
theorem convL_length (l : List LE) : (convL l).length = l.length := by simp [convL]
theorem getD_at {α : Type} {l : List α} {z : α} {i : Nat} (h : i < l.length) : l.getD i z = l[i] := by
  rw [List.getD_eq_getElem?_getD, List.getElem?_eq_getElem h]; rfl
theorem rdE_at {l : List E} {i : Nat} (h : i < l.length) : rd_T42 l (i : Int) = l[i] := by rw [rdE, Int.toNat_natCast, getD_at h]
theorem rdL_at {l : List LE} {i : Nat} (h : i < l.length) : rd_T51 l (i : Int) = l[i] := by rw [rdL, Int.toNat_natCast, getD_at h]
theorem set_mid {α : Type} (a b : List α) (x y : α) : (a ++ x :: b).set a.length y = a ++ y :: b := by
  rw [List.set_append_right _ _ (Nat.le_refl _)]; simp
theorem toExtS_l0 (l : List LE) (hl : l.length ≤ 4611686018427387904) (d : Nat) : ∀ (k i : Nat), i + d = l.length → d < k →
    laws_toExtS.l0 k l (convL (l.take i) ++ List.replicate d z42) i = some (convL l) := by
  induction d with
  | zero =>
    intro k i hi hk
    obtain ⟨k, rfl⟩ : ∃ m, k = m + 1 := ⟨k - 1, by omega⟩
    simp only [laws_toExtS.l0]; rw [if_neg (by omega), List.take_of_length_le (by omega)]; simp
  | succ d ih =>
    intro k i hi hk
    obtain ⟨k, rfl⟩ : ∃ m, k = m + 1 := ⟨k - 1, by omega⟩
    have hlt : i < l.length := by omega
    have hlen : (convL (l.take i)).length = i := by rw [convL_length, List.length_take]; omega
    simp only [laws_toExtS.l0]
    rw [if_pos (by omega), if_pos (by omega), rdL_at hlt]
    simp only [laws_toExt.f, Option.bind_some]
    rw [if_pos (by rw [List.length_append, hlen, List.length_replicate]; omega), Int.toNat_natCast, List.replicate_succ]
    have hs := set_mid (convL (l.take i)) (List.replicate d z42) z42 (conv l[i])
    rw [hlen] at hs
    show laws_toExtS.l0 k l ((convL (l.take i) ++ z42 :: List.replicate d z42).set i (conv l[i])) _ = _
    rw [hs, w64 (by omega) (by omega), show (i : Int) + 1 = ((i + 1 : Nat) : Int) by omega]
    have := ih k (i + 1) (by omega) (by omega)
    rw [List.take_succ_eq_append_getElem hlt] at this
    simp only [convL, List.map_append, List.map_cons, List.map_nil, List.append_assoc, List.cons_append, List.nil_append] at this
    exact this
theorem toExtS_eq {l : List LE} (hl : l.length ≤ 1048576) {k : Nat} (hk : l.length < k) : laws_toExtS.f k l = some (convL l) := by
  unfold laws_toExtS.f
  rw [if_pos (by omega), if_pos (by simp; omega)]
  have := toExtS_l0 l (by omega) l.length k 0 (by omega) hk
  simpa [convL] using this
theorem eqExt_eq (x y : E) : laws_eqExt.f x.f0 x.f1 y.f0 y.f1 = some (decide (x = y)) := by
  unfold laws_eqExt.f
  by_cases h0 : x.f0 = y.f0
  · by_cases h1 : x.f1 = y.f1
    · rw [if_pos h0, if_pos h1, decide_eq_true (E.ext_ h0 h1)]
    · rw [if_pos h0, if_neg h1, decide_eq_false (fun e => h1 (by rw [e]))]
  · rw [if_neg h0, decide_eq_false (fun e => h0 (by rw [e]))]
theorem eqExtS_l0 (a : List E) (hl : a.length ≤ 4611686018427387904) (d : Nat) : ∀ (k i : Nat), i + d = a.length → d < k → laws_eqExtS.l0 k a a i = some true := by
  induction d with
  | zero =>
    intro k i hi hk
    obtain ⟨k, rfl⟩ : ∃ m, k = m + 1 := ⟨k - 1, by omega⟩
    simp only [laws_eqExtS.l0]; rw [if_neg (by omega)]
  | succ d ih =>
    intro k i hi hk
    obtain ⟨k, rfl⟩ : ∃ m, k = m + 1 := ⟨k - 1, by omega⟩
    simp only [laws_eqExtS.l0]
    rw [if_pos (by omega), if_pos (by omega), if_pos (by omega), eqExt_eq]
    simp only [Option.bind_some, decide_true, if_true]
    rw [w64 (by omega) (by omega), show (i : Int) + 1 = ((i + 1 : Nat) : Int) by omega]
    exact ih k (i + 1) (by omega) (by omega)
theorem eqExtS_refl {a : List E} (hl : a.length ≤ 4611686018427387904) {k : Nat} (hk : a.length < k) : laws_eqExtS.f k a a = some true := by
  unfold laws_eqExtS.f; rw [if_pos rfl]; exact eqExtS_l0 a hl a.length k 0 (by omega) hk

/-! marks: a list's cells are numbered from k on -/
def marked : Nat → Int → List E
  | 0, _ => []
  | n + 1, k => ⟨k, k + 1⟩ :: marked n (k + 2)
theorem marked_length (n : Nat) (k : Int) : (marked n k).length = n := by
  induction n generalizing k with
  | zero => rfl
  | succ n ih => simp [marked, ih]
theorem marked_snoc (n : Nat) (k : Int) : marked (n + 1) k = marked n k ++ [⟨k + 2 * n, k + 2 * n + 1⟩] := by
  induction n generalizing k with
  | zero => simp [marked]
  | succ n ih =>
    rw [marked, ih, marked, List.cons_append]
    have e : k + 2 + 2 * (n : Int) = k + 2 * ((n : Int) + 1) := by omega
    rw [Int.natCast_succ, e]
theorem marked_get (n : Nat) (k : Int) (i : Nat) (h : i < (marked n k).length) : (marked n k)[i] = ⟨k + 2 * i, k + 2 * i + 1⟩ := by
  induction n generalizing k i with
  | zero => simp [marked] at h
  | succ n ih =>
    cases i with
    | zero => simp [marked]
    | succ i =>
      simp only [marked, List.getElem_cons_succ]
      rw [ih]
      have e : k + 2 + 2 * (i : Int) = k + 2 * ((i + 1 : Nat) : Int) := by omega
      rw [e]
theorem markExtS_l0 (a : List E) (k0 : Int) (hk0 : 0 ≤ k0) (hk1 : k0 ≤ 4611686018427387904) (hl : a.length ≤ 1152921504606846976) (d : Nat) : ∀ (k i : Nat), i + d = a.length → d < k →
    laws_markExtS.l0 k (marked i k0 ++ a.drop i) (k0 + 2 * i) i = some (k0 + 2 * a.length, marked a.length k0) := by
  induction d with
  | zero =>
    intro k i hi hk
    obtain ⟨k, rfl⟩ : ∃ m, k = m + 1 := ⟨k - 1, by omega⟩
    have : i = a.length := by omega
    subst this
    simp only [laws_markExtS.l0]
    rw [if_neg (by rw [List.length_append, marked_length, List.length_drop]; omega)]; simp
  | succ d ih =>
    intro k i hi hk
    obtain ⟨k, rfl⟩ : ∃ m, k = m + 1 := ⟨k - 1, by omega⟩
    have hlt : i < a.length := by omega
    simp only [laws_markExtS.l0]
    rw [if_pos (by rw [List.length_append, marked_length, List.length_drop]; omega), if_pos (by omega)]
    simp only [Option.bind_some, Int.toNat_natCast]
    rw [List.drop_eq_getElem_cons hlt]
    have hs := fun y => set_mid (marked i k0) (a.drop (i + 1)) a[i] y
    have hs2 := fun x y => set_mid (marked i k0) (a.drop (i + 1)) x y
    rw [marked_length] at hs hs2
    rw [hs, hs2]
    have hr : ∀ x : E, rd_T42 (marked i k0 ++ x :: a.drop (i + 1)) (i : Int) = x := by
      intro x
      rw [rdE, Int.toNat_natCast, List.getD_eq_getElem?_getD, List.getElem?_append_right (by rw [marked_length]; omega), marked_length, Nat.sub_self]; rfl
    rw [hr]
    rw [w64 (n := k0 + 2 * (i : Int) + 1) (by omega) (by omega), w64 (by omega) (by omega), w64 (by omega) (by omega), show (i : Int) + 1 = ((i + 1 : Nat) : Int) by omega]
    have := ih k (i + 1) (by omega) (by omega)
    rw [marked_snoc, List.append_assoc] at this
    rw [show k0 + 2 * (i : Int) + 1 + 1 = k0 + 2 * ((i + 1 : Nat) : Int) by omega]
    exact this
theorem markExtS_eq {a : List E} {k0 : Int} (hk0 : 0 ≤ k0) (hk1 : k0 ≤ 4611686018427387904) (hl : a.length ≤ 1152921504606846976) {k : Nat} (hk : a.length < k) :
    laws_markExtS.f k a k0 = some (k0 + 2 * a.length, marked a.length k0) := by
  have := markExtS_l0 a k0 hk0 hk1 hl a.length k 0 (by omega) hk
  unfold laws_markExtS.f
  simpa [marked] using this
theorem heldExtS_l0 (n : Nat) (k0 : Int) (hk0 : 0 ≤ k0) (hk1 : k0 ≤ 4611686018427387904) (hl : n ≤ 1152921504606846976) (d : Nat) : ∀ (k i : Nat), i + d = n → d < k →
    laws_heldExtS.l0 k (marked n k0) (k0 + 2 * i) i = some (k0 + 2 * n) := by
  induction d with
  | zero =>
    intro k i hi hk
    obtain ⟨k, rfl⟩ : ∃ m, k = m + 1 := ⟨k - 1, by omega⟩
    have : i = n := by omega
    subst this
    simp only [laws_heldExtS.l0]
    rw [if_neg (by rw [marked_length]; omega)]
  | succ d ih =>
    intro k i hi hk
    obtain ⟨k, rfl⟩ : ∃ m, k = m + 1 := ⟨k - 1, by omega⟩
    have hlt : i < (marked n k0).length := by rw [marked_length]; omega
    simp only [laws_heldExtS.l0]
    rw [if_pos (by rw [marked_length]; omega), if_pos (by omega), rdE_at hlt, marked_get, if_pos rfl, w64 (n := k0 + 2 * (i : Int) + 1) (by omega) (by omega), if_pos rfl,
      w64 (by omega) (by omega), w64 (by omega) (by omega), show (i : Int) + 1 = ((i + 1 : Nat) : Int) by omega, show k0 + 2 * (i : Int) + 1 + 1 = k0 + 2 * ((i + 1 : Nat) : Int) by omega]
    exact ih k (i + 1) (by omega) (by omega)
theorem heldExtS_eq {n : Nat} {k0 : Int} (hk0 : 0 ≤ k0) (hk1 : k0 ≤ 4611686018427387904) (hl : n ≤ 1152921504606846976) {k : Nat} (hk : n < k) :
    laws_heldExtS.f k (marked n k0) k0 = some (k0 + 2 * n) := by
  have := heldExtS_l0 n k0 hk0 hk1 hl n k 0 (by omega) hk
  unfold laws_heldExtS.f
  simpa using this

/-! powers of two -/
def pow2B (n most : Int) : Bool := decide (n ≤ most) && (n == 1 || n == 2 || n == 4 || n == 8 || n == 16 || n == 32 || n == 64 || n == 128 || n == 256 || n == 512)
theorem and_small : ∀ n : Fin 513, 0 < n.val → ((Go.bits .and .i64 (n.val : Int) ((n.val : Int) - 1)) == 0) = pow2B n.val 512 := by decide +kernel
theorem impl_isPower_eq {n most : Int} (hm : most ≤ 512) : impl_isPower.f n most = some (pow2B n most) := by
  unfold impl_isPower.f
  rw [impl_in_eq]
  simp only [Option.bind_some]
  by_cases h : 1 ≤ n ∧ n ≤ most
  · rw [decide_eq_true h, if_pos rfl, w64 (by omega) (by omega)]
    have := and_small ⟨n.toNat, by omega⟩ (by show 0 < n.toNat; omega)
    simp only [Int.toNat_of_nonneg (show 0 ≤ n by omega)] at this
    rw [this]
    unfold pow2B
    rw [decide_eq_true h.2, decide_eq_true (show n ≤ 512 by omega)]
  · rw [decide_eq_false h, if_neg (by decide)]
    congr 1
    symm
    unfold pow2B
    by_cases h2 : n ≤ most
    · have : n < 1 := by omega
      have e : ∀ m : Int, 1 ≤ m → (n == m) = false := fun m hm => beq_eq_false_iff_ne.2 (by omega)
      simp [e]
    · rw [decide_eq_false h2]; rfl
def pw (n most : Int) : Nat → Int → Bool
  | 0, _ => false
  | r + 1, x => (decide (x ≤ most) && (n == x)) || (decide (x ≤ most) && pw n most r (x * 2))
theorem l04Power_l0 (n most : Int) (hm : most ≤ 512) (r : Nat) : ∀ (k : Nat) (x : Int), 0 < x → most < x * 2 ^ r → r < k → spec_l04Power.l0 k n most x = some (pw n most r x) := by
  induction r with
  | zero =>
    intro k x hx h hk
    obtain ⟨k, rfl⟩ : ∃ m, k = m + 1 := ⟨k - 1, by omega⟩
    simp only [spec_l04Power.l0]; rw [if_neg (by simp at h; omega)]; rfl
  | succ r ih =>
    intro k x hx h hk
    obtain ⟨k, rfl⟩ : ∃ m, k = m + 1 := ⟨k - 1, by omega⟩
    simp only [spec_l04Power.l0, pw]
    by_cases h1 : x ≤ most
    · rw [if_pos h1, decide_eq_true h1]
      by_cases h2 : n = x
      · rw [if_pos h2, beq_iff_eq.2 h2]; rfl
      · rw [if_neg h2, beq_eq_false_iff_ne.2 h2, w64 (by omega) (by omega), ih k (x * 2) (by omega) (by rw [Int.pow_succ] at h; rw [Int.mul_assoc, Int.mul_comm 2]; exact h) (by omega)]; simp
    · rw [if_neg h1, decide_eq_false h1]; rfl
theorem pw_eq {n most : Int} (hm : most ≤ 512) : pw n most 10 1 = pow2B n most := by
  rw [Bool.eq_iff_iff]
  simp only [pw, pow2B, Bool.or_eq_true, Bool.and_eq_true, decide_eq_true_eq, beq_iff_eq]
  simp
  omega
theorem spec_l04Power_eq {n most : Int} (hm : most ≤ 512) {k : Nat} (hk : 10 < k) : spec_l04Power.f k n most = some (pow2B n most) := by
  unfold spec_l04Power.f
  rw [l04Power_l0 n most hm 10 k 1 (by omega) (by omega) hk, pw_eq hm]
end Go.Proofs.Ytlfnfalckfggkaa.PT
end
section
/- Steps that several laws share: same answers compared, lists turned in place. -/
namespace Go.Proofs.Ytlfnfalckfggkaa.PT
open Go.RowKit Go.Proofs.YtlfnfalckfggkaaW.PrintWords Go.Proofs.YtlfnfalckfggkaaW.PrintLast Go.Proofs.YtlfnfalckfggkaaW.PrintMore
set_option linter.unusedVariables false
set_option linter.unusedSimpArgs false
/-- A step with its answer known, as a rewriting (no unfolding in the kernel). -/
theorem bS {α β : Type} (a : α) (f : α → Option β) : (some a).bind f = f a := Eq.trans (Eq.refl _) (Option.bind_some a f)
theorem toExt_eq (a b : Int) : laws_toExt.f a b = some (a, b) := rfl
theorem okL_rd {l : List E} (h : okL l) {i : Int} (hi : 0 ≤ i) (hl : i < l.length) : okE (rd_T42 l i) := okL_get h i.toNat (by omega)
theorem okL_app {l m : List E} (h : okL l) (h2 : okL m) : okL (l ++ m) := by
  intro y hy
  rcases List.mem_append.mp hy with h1 | h1
  · exact h y h1
  · exact h2 y h1
theorem okL_one {x : E} (hx : okE x) : okL [x] := by intro y hy; rw [List.mem_singleton.mp hy]; exact hx
theorem okL_nil : okL [] := by intro y hy; cases hy
theorem pow2B_512 {n : Int} (h : pow2B n 512 = true) : n = 1 ∨ n = 2 ∨ n = 4 ∨ n = 8 ∨ n = 16 ∨ n = 32 ∨ n = 64 ∨ n = 128 ∨ n = 256 ∨ n = 512 := by
  unfold pow2B at h
  simp only [Bool.and_eq_true, Bool.or_eq_true, decide_eq_true_eq, beq_iff_eq] at h
  omega
end Go.Proofs.Ytlfnfalckfggkaa.PT
end
section
/- The equality weight, at a point and as a table: both sides walk the same numbers. -/
namespace Go.Proofs.Ytlfnfalckfggkaa.PT
open Go.RowKit Go.Proofs.YtlfnfalckfggkaaW.PrintWords Go.Proofs.YtlfnfalckfggkaaW.PrintLast Go.Proofs.YtlfnfalckfggkaaW.PrintMore
set_option linter.unusedVariables false
set_option linter.unusedSimpArgs false
/-! the table -/
theorem etaE (x : E) : (⟨x.f0, x.f1⟩ : E) = x := rfl
end Go.Proofs.Ytlfnfalckfggkaa.PT
end
section
/- Tables turned in place, folded, and read at a point: both sides walk the same numbers. -/
namespace Go.Proofs.Ytlfnfalckfggkaa.PT
open Go.RowKit Go.Proofs.YtlfnfalckfggkaaW.PrintWords Go.Proofs.YtlfnfalckfggkaaW.PrintLast Go.Proofs.YtlfnfalckfggkaaW.PrintMore
set_option linter.unusedVariables false
set_option linter.unusedSimpArgs false
/-! a table turned in place -/
/-! a table folded -/
/-! a table at a point -/
theorem shl_small0 : ∀ n : Fin 10, shl .i64 1 (n.val : Int) = ((2 ^ n.val : Nat) : Int) := by decide +kernel
theorem shl_small {n : Nat} (h : n < 10) : shl .i64 1 (n : Int) = ((2 ^ n : Nat) : Int) := shl_small0 ⟨n, h⟩
end Go.Proofs.Ytlfnfalckfggkaa.PT
end
section
/- Powers, inverses and the line: what the printed functions of chapter 2 come to. -/
namespace Go.Proofs.Ytlfnfalckfggkaa.PT
open Go.RowKit Go.Proofs.YtlfnfalckfggkaaW.PrintWords Go.Proofs.YtlfnfalckfggkaaW.PrintLast Go.Proofs.YtlfnfalckfggkaaW.PrintMore
set_option linter.unusedVariables false
set_option linter.unusedSimpArgs false
theorem e_al (a b : Int) : (a % 2130706433 + b) % 2130706433 = (a + b) % 2130706433 := by omega
theorem e_ar (a b : Int) : (a + b % 2130706433) % 2130706433 = (a + b) % 2130706433 := by omega
theorem e_ml (a b : Int) : (a % 2130706433 * b) % 2130706433 = (a * b) % 2130706433 := by rw [Int.mul_emod, Int.emod_emod_of_dvd _ (Int.dvd_refl _), ← Int.mul_emod]
theorem e_mr (a b : Int) : (a * (b % 2130706433)) % 2130706433 = (a * b) % 2130706433 := by rw [Int.mul_emod, Int.emod_emod_of_dvd _ (Int.dvd_refl _), ← Int.mul_emod]
theorem e_pow (a : Int) (n : Nat) : (a % 2130706433) ^ n % 2130706433 = a ^ n % 2130706433 := by
  induction n with
  | zero => rw [Int.pow_zero, Int.pow_zero]
  | succ n ih => rw [Int.pow_succ, Int.pow_succ, e_mr, ← e_ml, ih, e_ml]
theorem pow_sq (a : Int) (m : Nat) : (a * a) ^ m = a ^ (2 * m) := by
  induction m with
  | zero => rw [Nat.mul_zero, Int.pow_zero, Int.pow_zero]
  | succ m ih => rw [Int.pow_succ, ih, show 2 * (m + 1) = 2 * m + 1 + 1 by omega, Int.pow_succ, Int.pow_succ, Int.mul_assoc]
theorem and1 {x : Int} (h0 : 0 ≤ x) (h1 : x ≤ 9223372036854775807) : Go.bits .and .i64 x 1 = x % 2 := by
  have := bits_mask .i64 63 (by decide) (fun n h0 h1 => by
    simp only [IntKind.wrap, IntKind.bits, IntKind.signed]
    simp
    simp at h1
    omega) 1 (by decide) x h0 (by simp; omega)
  simpa using this
def fpow (a : Int) (n : Nat) : Int := a ^ n % 2130706433
theorem inF_pow (a : Int) (n : Nat) : inF (fpow a n) := by unfold inF fpow; omega
theorem pow_l0 (d : Nat) (hd : d ≤ 62) : ∀ (n : Nat) (a r : Int), n < 2 ^ d → inF a → inF r → ∀ k, d < k →
    impl_pow.l0 k a n r = some (r * a ^ n % 2130706433) ∧ spec_l01Pow.l0 k a n r = some (r * a ^ n % 2130706433) := by
  induction d with
  | zero =>
    intro n a r hn ha hr k hk
    obtain ⟨k, rfl⟩ : ∃ m, k = m + 1 := ⟨k - 1, by omega⟩
    obtain rfl : n = 0 := by simp at hn; exact hn
    simp only [impl_pow.l0, spec_l01Pow.l0]
    have e : r * a ^ 0 % 2130706433 = r := by unfold inF at hr; rw [Int.pow_zero]; omega
    rw [if_neg (by omega), if_neg (by omega), e]; exact ⟨rfl, rfl⟩
  | succ d ih =>
    intro n a r hn ha hr k hk
    obtain ⟨k, rfl⟩ : ∃ m, k = m + 1 := ⟨k - 1, by omega⟩
    simp only [impl_pow.l0, spec_l01Pow.l0]
    by_cases h0 : n = 0
    · subst h0
      have e : r * a ^ 0 % 2130706433 = r := by unfold inF at hr; rw [Int.pow_zero]; omega
      rw [if_neg (by omega), if_neg (by omega), e]; exact ⟨rfl, rfl⟩
    · have hd2 : n < 2 ^ 62 := Nat.lt_of_lt_of_le hn (Nat.pow_le_pow_right (by omega) hd)
      have hn62 : n < 4611686018427387904 := hd2
      have e1 : Go.bits .and .i64 (n : Int) 1 = (n : Int) % 2 := and1 (by omega) (by omega)
      have e2 : Int.tmod (n : Int) 2 = (n : Int) % 2 := tmod_nn (by omega)
      have e3 : wrap64 (Int.tdiv (n : Int) 2) = ((n / 2 : Nat) : Int) := by rw [tdiv_nn (by omega), w64 (by omega) (by omega)]; omega
      have e4 : (n : Int) / 2 = ((n / 2 : Nat) : Int) := by omega
      have hm : n / 2 < 2 ^ d := by rw [Nat.pow_succ] at hn; omega
      have hpos : (n : Int) > 0 := by omega
      rw [e1, e2, e3, e4, if_pos hpos]
      by_cases h1 : (n : Int) % 2 = 1
      · rw [if_pos h1, if_pos hpos, if_pos h1, impl_mul_eq hr ha, spec_l01Mul_eq hr ha, impl_mul_eq ha ha, spec_l01Mul_eq ha ha]
        simp only [bS]
        have hx := ih (by omega) (n / 2) (fmul a a) (fmul r a) hm (inF_mul _ _) (inF_mul _ _) k (by omega)
        have e5 : fmul r a * fmul a a ^ (n / 2) % 2130706433 = r * a ^ n % 2130706433 := by
          unfold fmul
          rw [e_ml, ← e_mr, e_pow, e_mr, pow_sq, Int.mul_assoc, Int.mul_comm a, ← Int.pow_succ, show (2 * (n / 2)).succ = n by omega]
        rw [e5] at hx
        exact hx
      · rw [if_neg h1, if_pos hpos, if_neg h1, impl_mul_eq ha ha, spec_l01Mul_eq ha ha]
        simp only [bS]
        have hx := ih (by omega) (n / 2) (fmul a a) r hm (inF_mul _ _) hr k (by omega)
        have e5 : r * fmul a a ^ (n / 2) % 2130706433 = r * a ^ n % 2130706433 := by
          unfold fmul
          rw [← e_mr, e_pow, e_mr, pow_sq, show 2 * (n / 2) = n by omega]
        rw [e5] at hx
        exact hx
theorem pow_both {a : Int} (ha : inF a) {n : Nat} (hn : n < 2 ^ 40) {k : Nat} (hk : 40 < k) : impl_pow.f k a n = some (fpow a n) ∧ spec_l01Pow.f k a n = some (fpow a n) := by
  have h := pow_l0 40 (by omega) n a 1 hn ha inF_1 k hk
  rw [Int.one_mul] at h
  exact h
def finv (a : Int) : Int := fpow a 2130706431
theorem inF_inv (a : Int) : inF (finv a) := inF_pow _ _
theorem impl_inverse_eq {a : Int} (ha : inF a) {k : Nat} (hk : 40 < k) : impl_inverse.f k a = some (finv a) := by
  unfold impl_inverse.f finv
  have h := (pow_both ha (n := 2130706431) (by decide) hk).1
  rw [show ((2130706431 : Nat) : Int) = 2130706431 from rfl] at h
  rw [h]; rfl
theorem l01Inverse_eq {a : Int} (ha : inF a) {k : Nat} (hk : 40 < k) : spec_l01Inverse.f k a = some (finv a) := by
  unfold spec_l01Inverse.f finv
  have h := (pow_both ha (n := 2130706431) (by decide) hk).2
  rw [show ((2130706431 : Nat) : Int) = 2130706431 from rfl] at h
  rw [h]; rfl
theorem mul_scale (x w : E) (n : Int) : emul x (escale w n) = escale (emul x w) n := by
  refine E.ext_ ?_ ?_
  · show fadd (fmul x.f0 (fmul w.f0 n)) (fmul 3 (fmul x.f1 (fmul w.f1 n))) = fmul (fadd (fmul x.f0 w.f0) (fmul 3 (fmul x.f1 w.f1))) n
    unfold fmul fadd
    simp only [e_al, e_ar, e_ml, e_mr]
    congr 1; grind
  · show fadd (fmul x.f0 (fmul w.f1 n)) (fmul x.f1 (fmul w.f0 n)) = fmul (fadd (fmul x.f0 w.f1) (fmul x.f1 w.f0)) n
    unfold fmul fadd
    simp only [e_al, e_ar, e_ml, e_mr]
    congr 1; grind
end Go.Proofs.Ytlfnfalckfggkaa.PT
end
section
/- Words: their transform, its inverse, and a word folded: both sides walk the same numbers. -/
namespace Go.Proofs.Ytlfnfalckfggkaa.PT
open Go.RowKit Go.Proofs.YtlfnfalckfggkaaW.PrintWords Go.Proofs.YtlfnfalckfggkaaW.PrintLast Go.Proofs.YtlfnfalckfggkaaW.PrintMore
set_option linter.unusedVariables false
set_option linter.unusedSimpArgs false
def wordC (l : List E) : Int := if 4096 < l.length then 2 else if okLB l = true then (if pow2B l.length 512 = true then 0 else 8) else 1
theorem impl_wordCode_eq (l : List E) : impl_wordCode.f l = some (wordC l) := by
  unfold impl_wordCode.f wordC
  by_cases h : 4096 < l.length
  · rw [if_pos (by omega), if_pos h]
  · rw [if_neg (by omega), if_neg h, impl_are_eq]
    simp only [bS]
    by_cases h2 : okLB l = true
    · rw [if_pos h2, if_pos h2, impl_isPower_eq (by omega)]
      simp only [bS]
      by_cases h3 : pow2B (l.length : Int) 512 = true
      · rw [if_pos h3, if_pos h3]
      · rw [if_neg h3, if_neg h3]
    · rw [if_neg h2, if_neg h2]
theorem l07Ask_eq {l : List E} {k : Nat} (hk : l.length + 20 < k) : spec_l07Ask.f k l = some (wordC l) := by
  unfold spec_l07Ask.f wordC
  by_cases h : 4096 < l.length
  · rw [if_pos (by omega), if_pos h]
  · rw [if_neg (by omega), if_neg h, spec_l02List_eq (by omega) (by omega)]
    simp only [bS]
    by_cases h2 : okLB l = true
    · rw [if_pos h2, if_pos h2]
      unfold spec_l07Size.f
      rw [spec_l04Power_eq (by omega) (by omega)]
      simp only [bS]
      by_cases h3 : pow2B (l.length : Int) 512 = true
      · rw [if_pos h3, if_pos h3]
      · rw [if_neg h3, if_neg h3]
    · rw [if_neg h2, if_neg h2]
theorem wordC_zero {l : List E} (h : wordC l = 0) : okL l ∧ ∃ t, t ≤ 9 ∧ l.length = 2 ^ t := by
  unfold wordC at h
  by_cases h1 : 4096 < l.length
  · rw [if_pos h1] at h; omega
  · rw [if_neg h1] at h
    by_cases h2 : okLB l = true
    · rw [if_pos h2] at h
      by_cases h3 : pow2B (l.length : Int) 512 = true
      · refine ⟨(okLB_iff l).1 h2, ?_⟩
        rcases pow2B_512 h3 with h | h | h | h | h | h | h | h | h | h
        · exact ⟨0, by omega, by omega⟩
        · exact ⟨1, by omega, by omega⟩
        · exact ⟨2, by omega, by omega⟩
        · exact ⟨3, by omega, by omega⟩
        · exact ⟨4, by omega, by omega⟩
        · exact ⟨5, by omega, by omega⟩
        · exact ⟨6, by omega, by omega⟩
        · exact ⟨7, by omega, by omega⟩
        · exact ⟨8, by omega, by omega⟩
        · exact ⟨9, by omega, by omega⟩
      · rw [if_neg h3] at h; omega
    · rw [if_neg h2] at h; omega
theorem u64w {n : Int} (h0 : 0 ≤ n) (h1 : n ≤ 4611686018427387904) : IntKind.u64.wrap n = n := by
  simp only [IntKind.wrap, IntKind.bits, IntKind.signed]; simp; omega
/-! logarithms and roots -/
theorem logOf0 : ∀ t : Fin 10, impl_logOf.f ((2 ^ t.val : Nat) : Int) = some (t.val : Int) := by decide +kernel
theorem logOf_eq {t : Nat} (h : t ≤ 9) : impl_logOf.f ((2 ^ t : Nat) : Int) = some (t : Int) := logOf0 ⟨t, by omega⟩
theorem vars_l0 (t : Nat) (ht : t ≤ 9) (d : Nat) : ∀ (k j : Nat), j + d = t → d < k → spec_l06Vars.l0 k ((2 ^ t : Nat) : Int) j = some (t : Int) := by
  induction d with
  | zero =>
    intro k j hj hk
    obtain ⟨k, rfl⟩ : ∃ m, k = m + 1 := ⟨k - 1, by omega⟩
    obtain rfl : j = t := by omega
    simp only [spec_l06Vars.l0]
    rw [u64w (by omega) (by omega), if_pos (by omega), shl_small (by omega), if_neg (by omega)]
  | succ d ih =>
    intro k j hj hk
    obtain ⟨k, rfl⟩ : ∃ m, k = m + 1 := ⟨k - 1, by omega⟩
    have hp : 2 ^ j < 2 ^ t := Nat.pow_lt_pow_right (by omega) (by omega)
    simp only [spec_l06Vars.l0]
    rw [u64w (by omega) (by omega), if_pos (by omega), shl_small (by omega), if_pos (by omega), w64 (by omega) (by omega), show (j : Int) + 1 = ((j + 1 : Nat) : Int) by omega]
    exact ih k (j + 1) (by omega) (by omega)
theorem vars_eq {t : Nat} (h : t ≤ 9) {k : Nat} (hk : 20 < k) : spec_l06Vars.f k ((2 ^ t : Nat) : Int) = some (t : Int) := vars_l0 t h t k 0 (by omega) (by omega)
def rootE (t : Nat) : Nat := 127 * 2 ^ (24 - t)
theorem rootE0 : ∀ t : Fin 10, shl .i64 127 (24 - (t.val : Int)) = (rootE t.val : Int) ∧ rootE t.val < 2 ^ 40 := by decide +kernel
def rootOf (t : Nat) : Int := fpow 3 (rootE t)
theorem inF_root (t : Nat) : inF (rootOf t) := inF_pow _ _
theorem impl_root_eq {t : Nat} (h : t ≤ 9) {k : Nat} (hk : 40 < k) : impl_root.f k (t : Int) = some (rootOf t) := by
  have e := rootE0 ⟨t, by omega⟩
  simp only at e
  unfold impl_root.f rootOf
  rw [w64 (by omega) (by omega), if_pos (by omega), e.1, (pow_both inF_3 e.2 hk).1]; rfl
theorem l01Root_eq {t : Nat} (h : t ≤ 9) {k : Nat} (hk : 40 < k) : spec_l01Root.f k (t : Int) = some (rootOf t) := by
  have e := rootE0 ⟨t, by omega⟩
  simp only at e
  unfold spec_l01Root.f rootOf
  rw [w64 (by omega) (by omega), u64w (by omega) (by omega), if_pos (by omega), e.1, (pow_both inF_3 e.2 hk).2]; rfl
/-! a pair folded -/
def pairOf (t i : Nat) (x y z : E) : E :=
  eadd (escale (eadd x y) (finv 2)) (escale (emul z (esub x y)) (fmul (finv 2) (finv (fpow (rootOf t) i))))
theorem inF_2 : inF 2 := by decide
theorem impl_pair_eq {t i : Nat} (ht : t ≤ 9) (hi : i < 1024) {x y z : E} (hx : okE x) (hy : okE y) (hz : okE z) {k : Nat} (hk : 100 < k) :
    impl_foldPair.f k ((2 ^ t : Nat) : Int) i x.f0 x.f1 y.f0 y.f1 z.f0 z.f1 = some ((pairOf t i x y z).f0, (pairOf t i x y z).f1) := by
  have hp : (2 : Nat) ^ 40 = 1099511627776 := by decide
  unfold impl_foldPair.f
  rw [impl_inverse_eq inF_2 (by omega)]
  simp only [bS]
  rw [logOf_eq ht]
  simp only [bS]
  rw [impl_root_eq ht (by omega)]
  simp only [bS]
  rw [(pow_both (inF_root t) (n := i) (by omega) (by omega)).1]
  simp only [bS]
  rw [impl_plus_eq hx hy]
  simp only [bS]
  rw [impl_scaled_eq (ok_add _ _) (inF_inv _), impl_minus_eq hx hy]
  simp only [bS]
  rw [impl_times_eq hz (ok_sub _ _)]
  simp only [bS]
  rw [impl_inverse_eq (inF_pow _ _) (by omega)]
  simp only [bS]
  rw [impl_mul_eq (inF_inv _) (inF_inv _)]
  simp only [bS]
  rw [impl_scaled_eq (ok_mul _ _) (inF_mul _ _)]
  simp only [bS]
  rw [impl_plus_eq (ok_scale _ _) (ok_scale _ _)]
  simp only [bS]
  rfl
theorem spec_pair_eq {t i : Nat} (ht : t ≤ 9) (hi : i < 1024) {x y z : E} (hx : okE x) (hy : okE y) (hz : okE z) {k : Nat} (hk : 100 < k) :
    spec_l07Pair.f k ((2 ^ t : Nat) : Int) i x.f0 x.f1 y.f0 y.f1 z.f0 z.f1 = some ((pairOf t i x y z).f0, (pairOf t i x y z).f1) := by
  have hp : (2 : Nat) ^ 40 = 1099511627776 := by decide
  have e : pairOf t i x y z = eadd (emul (eadd x y) (eof (finv 2))) (emul z (emul (esub x y) (eof (fmul (finv 2) (finv (fpow (rootOf t) i)))))) := by
    unfold pairOf
    rw [emul_of, emul_of, mul_scale]
  unfold spec_l07Pair.f
  rw [vars_eq ht (by omega)]
  simp only [bS]
  rw [l01Root_eq ht (by omega)]
  simp only [bS]
  rw [(pow_both (inF_root t) (n := i) (by omega) (by omega)).2]
  simp only [bS]
  rw [l01Inverse_eq inF_2 (by omega)]
  simp only [bS]
  rw [spec_l02Add_eq hx hy]
  simp only [bS]
  rw [spec_l02Of_eq]
  simp only [bS]
  rw [spec_l02Mul_eq (ok_add _ _) (ok_of (inF_inv _)), spec_l02Sub_eq hx hy]
  simp only [bS]
  rw [l01Inverse_eq (inF_pow _ _) (by omega)]
  simp only [bS]
  rw [spec_l01Mul_eq (inF_inv _) (inF_inv _)]
  simp only [bS]
  rw [spec_l02Of_eq]
  simp only [bS]
  rw [spec_l02Mul_eq (ok_sub _ _) (ok_of (inF_mul _ _))]
  simp only [bS]
  rw [spec_l02Mul_eq hz (ok_mul _ _)]
  simp only [bS]
  rw [spec_l02Add_eq (ok_mul _ _) (ok_mul _ _)]
  simp only [bS]
  rw [e]
theorem foldW_l0 (x0 : List E) (h0 : okL x0) (t : Nat) (ht : t + 1 ≤ 9) (hl : x0.length = 2 ^ (t + 1)) (z : E) (hz : okE z) (d : Nat) : ∀ (i : Nat) (a : List E), i + d = 2 ^ t → a.length = i → okL a →
    ∃ q, (okL q ∧ q.length = 2 ^ t) ∧ ∀ k, d + 200 < k → spec_l07Fold.l0 k x0 a (x0.length : Int) i z.f0 z.f1 = some q ∧ impl_foldWord.l0 k x0 a ((2 ^ t : Nat) : Int) ((2 ^ t : Nat) : Int) i z.f0 z.f1 = some q := by
  have hh : 2 ^ (t + 1) = 2 * 2 ^ t := by rw [Nat.pow_succ, Nat.mul_comm]
  have hb : 2 ^ t ≤ 256 := Nat.le_trans (Nat.pow_le_pow_right (by omega) (show t ≤ 8 by omega)) (by decide)
  have hw : wrap64 ((x0.length : Int) / 2) = ((2 ^ t : Nat) : Int) := by rw [w64 (by omega) (by omega)]; omega
  induction d with
  | zero =>
    intro i a hi ha hoa
    refine ⟨a, ⟨hoa, by omega⟩, fun k hk => ?_⟩
    obtain ⟨k, rfl⟩ : ∃ m, k = m + 1 := ⟨k - 1, by omega⟩
    simp only [spec_l07Fold.l0, impl_foldWord.l0]
    rw [hw, if_neg (by omega), if_neg (by omega)]; exact ⟨rfl, rfl⟩
  | succ d ih =>
    intro i a hi ha hoa
    have w1 : wrap64 ((i : Int) + ((2 ^ t : Nat) : Int)) = (i : Int) + ((2 ^ t : Nat) : Int) := w64 (by omega) (by omega)
    have h1 : okE (rd_T42 x0 i) := okL_rd h0 (by omega) (by omega)
    have h2 : okE (rd_T42 x0 ((i : Int) + ((2 ^ t : Nat) : Int))) := okL_rd h0 (by omega) (by omega)
    obtain ⟨q, hq, h⟩ := ih (i + 1) (a ++ [pairOf (t + 1) i (rd_T42 x0 i) (rd_T42 x0 ((i : Int) + ((2 ^ t : Nat) : Int))) z]) (by omega) (by simp; omega) (okL_app hoa (okL_one (ok_add _ _)))
    refine ⟨q, hq, fun k hk => ?_⟩
    obtain ⟨k, rfl⟩ : ∃ m, k = m + 1 := ⟨k - 1, by omega⟩
    have hn : (x0.length : Int) = ((2 ^ (t + 1) : Nat) : Int) := by omega
    have p1 := spec_pair_eq (t := t + 1) (i := i) (by omega) (by omega) h1 h2 hz (k := k) (by omega)
    have p2 := impl_pair_eq (t := t + 1) (i := i) (by omega) (by omega) h1 h2 hz (k := k) (by omega)
    rw [← hn] at p1 p2
    simp only [spec_l07Fold.l0, impl_foldWord.l0]
    rw [hw, w1, if_pos (by omega), if_pos (by omega), if_pos (by omega), if_pos (by omega), if_pos (by omega), if_pos (by omega), if_pos (by omega), if_pos (by omega), if_pos (by omega), if_pos (by omega)]
    rw [p1, p2]
    simp only [bS]
    rw [if_pos (by omega), if_pos (by omega), w64 (n := (i : Int) + 1) (by omega) (by omega), show (i : Int) + 1 = ((i + 1 : Nat) : Int) by omega]
    exact h k (by omega)
theorem foldW_same {x0 : List E} (h0 : okL x0) {t : Nat} (ht : t + 1 ≤ 9) (hl : x0.length = 2 ^ (t + 1)) {z : E} (hz : okE z) :
    ∃ q, (okL q ∧ q.length = 2 ^ t) ∧ ∀ k, 500 < k → spec_l07Fold.f k x0 z.f0 z.f1 = some q ∧ impl_foldWord.f k x0 z.f0 z.f1 = some q := by
  have hh : 2 ^ (t + 1) = 2 * 2 ^ t := by rw [Nat.pow_succ, Nat.mul_comm]
  have hb : 2 ^ t ≤ 256 := Nat.le_trans (Nat.pow_le_pow_right (by omega) (show t ≤ 8 by omega)) (by decide)
  have hw : wrap64 ((x0.length : Int) / 2) = ((2 ^ t : Nat) : Int) := by rw [w64 (by omega) (by omega)]; omega
  unfold spec_l07Fold.f impl_foldWord.f
  rw [hw]
  obtain ⟨q, hq, h⟩ := foldW_l0 x0 h0 t ht hl z hz (2 ^ t) 0 [] (by omega) rfl okL_nil
  exact ⟨q, hq, fun k hk => h k (by omega)⟩
/-! the transform -/
end Go.Proofs.Ytlfnfalckfggkaa.PT
end
section
/- A word folded at an element, alike on both sides, held apart and untouched. -/
namespace Go.Proofs.Ytlfnfalckfggkaa.fnExactFoldWord
open Go.Proofs.Ytlfnfalckfggkaa.PT Go.RowKit Go.Proofs.YtlfnfalckfggkaaO Go.Proofs.YtlfnfalckfggkaaW.PrintWords Go.Proofs.YtlfnfalckfggkaaW.PrintLast Go.Proofs.YtlfnfalckfggkaaW.PrintMore
set_option linter.unusedSimpArgs false
theorem same (l : List E) (z : E) (hl : l.length ≤ 1048576) : ∃ (B : Nat) (r : List E × Int), B ≤ 100000 ∧ r.1.length ≤ 4096 ∧ ∀ k, l.length + 5000 + B ≤ k → spec_FoldWord.f k l z.f0 z.f1 = some r ∧ impl_FoldWord.f k l z.f0 z.f1 = some r := by
  by_cases h0 : wordC l = 0
  · obtain ⟨hok, t, ht, hn⟩ := wordC_zero h0
    have hb : 2 ^ t ≤ 512 := Nat.le_trans (Nat.pow_le_pow_right (by omega) ht) (by decide)
    have h4 : ¬ (l.length : Int) > 4096 := by omega
    by_cases hz : okB z = true
    · by_cases h1 : l.length = 1
      · refine ⟨10000, ([], 8), by omega, by simp, fun k hk => ?_⟩
        unfold spec_FoldWord.f impl_FoldWord.f
        rw [if_neg h4, l07Ask_eq (by omega), impl_wordCode_eq, h0, spec_ExtOK_eq, impl_ExtOK_eq, etaE, hz]
        simp only [bS, if_true]
        rw [if_pos (by omega), if_pos (by omega)]; exact ⟨rfl, rfl⟩
      · obtain ⟨s, rfl⟩ : ∃ s, t = s + 1 := by
          rcases t with _ | s
          · exact absurd hn h1
          · exact ⟨s, rfl⟩
        have hb2 : 2 ^ s ≤ 512 := Nat.le_trans (Nat.pow_le_pow_right (by omega) (show s ≤ 9 by omega)) (by decide)
        obtain ⟨q, hq, hk3⟩ := foldW_same hok ht hn ((okB_iff z).1 hz)
        refine ⟨10000, (q, 0), by omega, by show q.length ≤ 4096; omega, fun k hk => ?_⟩
        obtain ⟨e1, e2⟩ := hk3 k (by omega)
        unfold spec_FoldWord.f impl_FoldWord.f
        rw [if_neg h4, l07Ask_eq (by omega), impl_wordCode_eq, h0, spec_ExtOK_eq, impl_ExtOK_eq, etaE, hz]
        simp only [bS, if_true]
        rw [if_neg (by omega), if_neg (by omega), e1, e2]; exact ⟨rfl, rfl⟩
    · refine ⟨10000, ([], 1), by omega, by simp, fun k hk => ?_⟩
      unfold spec_FoldWord.f impl_FoldWord.f
      rw [if_neg h4, l07Ask_eq (by omega), impl_wordCode_eq, h0, spec_ExtOK_eq, impl_ExtOK_eq, etaE, Bool.eq_false_iff.mpr hz]
      simp only [bS, if_true]
      exact ⟨rfl, rfl⟩
  · refine ⟨10000, ([], wordC l), by omega, by simp, fun k hk => ?_⟩
    unfold spec_FoldWord.f impl_FoldWord.f
    rw [l07Ask_eq (by omega), impl_wordCode_eq]
    simp only [bS]
    rw [if_neg h0, if_neg h0]
    by_cases h1 : (l.length : Int) > 4096
    · have : wordC l = 2 := by unfold wordC; rw [if_pos (by omega)]
      rw [if_pos h1, this]; exact ⟨rfl, rfl⟩
    · rw [if_neg h1]; exact ⟨rfl, rfl⟩
theorem pureFnExactFoldWord : Pure := by
  intro x y hx _
  by_cases h : (x.length : Int) ≤ 1048576
  · have hl := convL_length x
    obtain ⟨B, r, hB, hr, hsame⟩ := same (convL x) (conv y) (by omega)
    refine ⟨(x.length + 5000 + B) + 1 + 1 + 1, ?_⟩
    unfold laws_FnExactFoldWord.f
    generalize hK : x.length + 5000 + B = K
    have s3 : spec_FoldWord.f (K + 1 + 1 + 1) (convL x) y.f0 y.f1 = some r ∧ impl_FoldWord.f (K + 1 + 1 + 1) (convL x) y.f0 y.f1 = some r := hsame (K + 1 + 1 + 1) (by omega)
    have s1 : spec_FoldWord.f (K + 1) (convL x) y.f0 y.f1 = some r ∧ impl_FoldWord.f (K + 1) (convL x) y.f0 y.f1 = some r := hsame (K + 1) (by omega)
    rw [szExtS_fit (by omega) h]
    simp only [bS]
    rw [if_neg (by omega), toExtS_eq (k := K + 1 + 1 + 1) (by omega) (by omega)]
    simp only [bS, toExt_eq]
    rw [s3.1, s3.2]
    simp only [bS]
    rw [eqExtS_refl (k := K + 1 + 1 + 1) (by omega) (by omega)]
    simp only [bS, if_true, bne_self_eq_false, laws_FnExactFoldWord.j0, Bool.false_eq_true, if_false]
    rw [toExtS_eq (k := K + 1 + 1) (by omega) (by omega)]
    simp only [bS]
    rw [eqExtS_refl (k := K + 1 + 1) (by omega) (by omega)]
    simp only [bS, if_true]
    rw [markExtS_eq (k := K + 1 + 1) (by omega) (by omega) (by omega) (by omega)]
    simp only [bS]
    rw [if_neg (by omega), eqExtS_refl (k := K + 1 + 1) (by omega) (by omega)]
    simp only [bS, if_true, bne_self_eq_false, laws_FnExactFoldWord.j1, Bool.false_eq_true, if_false]
    rw [markExtS_eq (k := K + 1) (by omega) (by omega) (by omega) (by omega)]
    simp only [bS]
    rw [heldExtS_eq (k := K + 1) (by omega) (by omega) (by omega) (by omega)]
    simp only [bS]
    rw [if_neg (by omega), if_true, toExtS_eq (k := K + 1) (by omega) (by omega)]
    simp only [bS, toExt_eq]
    rw [s1.2]
    simp only [bS]
    rw [eqExtS_refl (k := K + 1) (by omega) (by omega)]
    simp only [bS, if_true, bne_self_eq_false, laws_FnExactFoldWord.j2, Bool.false_eq_true, if_false]
    rw [heldExtS_eq (k := K) (by omega) (by omega) (by omega) (by omega)]
    simp only [bS]
    rw [if_neg (by omega), if_true]
  · refine ⟨1, ?_⟩
    unfold laws_FnExactFoldWord.f
    rw [szExtS_big (by omega) (by omega) hx.1 (by omega)]
    simp
end Go.Proofs.Ytlfnfalckfggkaa.fnExactFoldWord
end
