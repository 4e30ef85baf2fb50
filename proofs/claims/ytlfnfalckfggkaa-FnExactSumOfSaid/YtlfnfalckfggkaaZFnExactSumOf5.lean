/- Part 5 of the proof of FnExactSumOf: what functions compute, shown step by step, and what that says (the claim's last text states the law). -/
import Derived.Test.YtlfnfalckfggkaaProg
import Derived.Test.YtlfnfalckfggkaaWMore
import Derived.Test.YtlfnfalckfggkaaWWords
import Derived.Test.YtlfnfalckfggkaaWLast
import Derived.Test.YtlfnfalckfggkaaWTab
import Derived.Test.YtlfnfalckfggkaaWFour
import Derived.Test.YtlfnfalckfggkaaWQPut
import Derived.Test.YtlfnfalckfggkaaWApart
import Derived.Test.YtlfnfalckfggkaaWArr
import Derived.Test.YtlfnfalckfggkaaWZeros
import Derived.Test.YtlfnfalckfggkaaWFoot
import Derived.Test.YtlfnfalckfggkaaWKept
import Derived.Test.YtlfnfalckfggkaaWShare
import Derived.Test.YtlfnfalckfggkaaWN
import Derived.Test.YtlfnfalckfggkaaWFootNe
import Derived.Test.YtlfnfalckfggkaaWAt
import Derived.Test.YtlfnfalckfggkaaWEqStruct
import Derived.Test.YtlfnfalckfggkaaWRepsOne
import Derived.Test.YtlfnfalckfggkaaWInv
import Derived.Test.YtlfnfalckfggkaaWInvWords
import Derived.Test.YtlfnfalckfggkaaWGuard
import Derived.Test.YtlfnfalckfggkaaWNEv
import Derived.Test.YtlfnfalckfggkaaRows
import Derived.JoinedOf
import Derived.WalkKit
import Derived.ProofKit
import Derived.Below
import Derived.Deep.Draws
import Derived.Deep.AppendLies
import Derived.Maps.AppendAt
import Derived.OwnWalk
import Derived.Laws.BytesArg
import Derived.Laws.MakeOwn
import Derived.Laws.OwnMore
import Derived.Deep.OwnRows
import Derived.Tactics
import Derived.Lib.ConvBytes
import Derived.Laws.Slices
import Derived.KernelRfl
import Derived.RowKit3
import Derived.Deep.LoopGhost
import Derived.Deep.QuietTactic
import Derived.BigQuiet
import Derived.WideLaws
import Derived.Deep.DeepCutAuto
import Derived.Deep.CutBlock
import Derived.Deep.RegionHeld3
import Derived.Laws.Rows
import Derived.Lib.AppendStr
import Derived.ArgAppend
import Derived.Laws.IdiomCopy
import Derived.OrdersHeld
import Derived.Laws.BitsLemmas
import Derived.RowKit
import Derived.OpenShut
import Derived.ShutString
import Derived.ChangeOld
import Derived.SizedLaws
import Derived.Deep.Slices
import Derived.ChangeArms
import Derived.Test.YtlfnfalckfggkaaZFnExactSumOf4
section
/- Tables of tables: the laws' helpers over them, and the sum over all points. -/
namespace Go.Proofs.Ytlfnfalckfggkaa.PT
open Go.RowKit Go.Proofs.YtlfnfalckfggkaaW.PrintWords Go.Proofs.YtlfnfalckfggkaaW.PrintLast Go.Proofs.YtlfnfalckfggkaaW.PrintMore
set_option linter.unusedVariables false
set_option linter.unusedSimpArgs false
theorem rdLL_at {L : List (List LE)} {i : Nat} (h : i < L.length) : rd_L4 L (i : Int) = L[i] := by
  show L.getD (i : Int).toNat [] = L[i]
  rw [Int.toNat_natCast, getD_at h]
theorem rdEE_at {L : List (List E)} {i : Nat} (h : i < L.length) : rd_L5 L (i : Int) = L[i] := by
  show L.getD (i : Int).toNat [] = L[i]
  rw [Int.toNat_natCast, getD_at h]
theorem szSS_l0 (L : List (List LE)) (hg : ∀ x ∈ L, x.length ≤ 9223372036854775807) (hL : L.length ≤ 1048576) (d : Nat) : ∀ (k i : Nat) (a : Int), i + d = L.length → d < k → 0 ≤ a → a ≤ 1048576 →
    ∃ r, laws_szExtSS.l0 k L a i = some r ∧ (r < 0 ∨ ∀ x ∈ L.drop i, (x.length : Int) ≤ 1048576) := by
  induction d with
  | zero =>
    intro k i a hi hk h0 h1
    obtain ⟨k, rfl⟩ : ∃ m, k = m + 1 := ⟨k - 1, by omega⟩
    simp only [laws_szExtSS.l0]
    rw [if_neg (by omega)]
    exact ⟨_, rfl, Or.inr (by rw [List.drop_eq_nil_of_le (by omega)]; intro x hx; cases hx)⟩
  | succ d ih =>
    intro k i a hi hk h0 h1
    obtain ⟨k, rfl⟩ : ∃ m, k = m + 1 := ⟨k - 1, by omega⟩
    have hlt : i < L.length := by omega
    simp only [laws_szExtSS.l0]
    rw [if_pos (show (i : Int) < (L.length : Int) by omega), if_pos (show 0 ≤ (i : Int) by omega), rdLL_at hlt]
    by_cases h : a < ((L[i]).length : Int)
    · rw [szExtS_big h0 h1 (hg _ (List.getElem_mem hlt)) h]
      simp only [bS]
      exact ⟨_, if_pos (by omega), Or.inl (by omega)⟩
    · rw [szExtS_fit h1 (by omega)]
      simp only [bS]
      rw [if_neg (by omega), w64 (by omega) (by omega), show (i : Int) + 1 = ((i + 1 : Nat) : Int) by omega]
      obtain ⟨r, e, hr⟩ := ih k (i + 1) (a - (L[i]).length) (by omega) (by omega) (by omega) (by omega)
      refine ⟨r, e, ?_⟩
      rcases hr with hr | hr
      · exact Or.inl hr
      · refine Or.inr fun x hx => ?_
        rw [List.drop_eq_getElem_cons hlt] at hx
        rcases List.mem_cons.mp hx with rfl | hx
        · omega
        · exact hr x hx
theorem szSS_eq {L : List (List LE)} (hg : ∀ x ∈ L, x.length ≤ 9223372036854775807) (hg2 : L.length ≤ 9223372036854775807) :
    ∃ r, (∀ k, min L.length 1048576 < k → laws_szExtSS.f k L 1048576 = some r) ∧ (r < 0 ∨ (L.length ≤ 1048576 ∧ ∀ x ∈ L, x.length ≤ 1048576)) := by
  by_cases h : L.length ≤ 1048576
  · obtain ⟨r0, e0, hr0⟩ := szSS_l0 L hg h L.length (L.length + 1) 0 (1048576 - L.length) (by omega) (by omega) (by omega) (by omega)
    have mono : ∀ (d k i : Nat) (a : Int), i + d = L.length → d < k → 0 ≤ a → a ≤ 1048576 → laws_szExtSS.l0 k L a i = laws_szExtSS.l0 (d + 1) L a i := by
      intro d
      induction d with
      | zero =>
        intro k i a hi hk _ _
        obtain ⟨k, rfl⟩ : ∃ m, k = m + 1 := ⟨k - 1, by omega⟩
        simp only [laws_szExtSS.l0]
        rw [if_neg (by omega), if_neg (by omega)]
      | succ d ih =>
        intro k i a hi hk h0 h1
        obtain ⟨k, rfl⟩ : ∃ m, k = m + 1 := ⟨k - 1, by omega⟩
        have hlt : i < L.length := by omega
        rw [laws_szExtSS.l0, laws_szExtSS.l0, if_pos (show (i : Int) < (L.length : Int) by omega), if_pos (show 0 ≤ (i : Int) by omega), rdLL_at hlt,
          if_pos (show (i : Int) < (L.length : Int) by omega), if_pos (show 0 ≤ (i : Int) by omega)]
        by_cases h : a < ((L[i]).length : Int)
        · rw [szExtS_big h0 h1 (hg _ (List.getElem_mem hlt)) h]
          simp only [bS]
          rw [if_pos (by omega), if_pos (by omega)]
        · rw [szExtS_fit h1 (by omega)]
          simp only [bS]
          rw [if_neg (by omega), if_neg (by omega), w64 (n := (i : Int) + 1) (by omega) (by omega), show (i : Int) + 1 = ((i + 1 : Nat) : Int) by omega]
          exact ih k (i + 1) _ (by omega) (by omega) (by omega) (by omega)
    refine ⟨r0, fun k hk => ?_, ?_⟩
    · unfold laws_szExtSS.f
      rw [w64 (by omega) (by omega), if_neg (by omega)]
      have := mono L.length k 0 (1048576 - L.length) (by omega) (by omega) (by omega) (by omega)
      rw [Int.natCast_zero] at this e0
      rw [this]; exact e0
    · rcases hr0 with h1 | h1
      · exact Or.inl h1
      · exact Or.inr ⟨h, fun x hx => by have := h1 x (by rw [List.drop_zero]; exact hx); omega⟩
  · refine ⟨-1, fun k hk => ?_, Or.inl (by omega)⟩
    unfold laws_szExtSS.f
    rw [w64 (by omega) (by omega), if_pos (by omega)]
def convLL (L : List (List LE)) : List (List E) := L.map convL
theorem convLL_length (L : List (List LE)) : (convLL L).length = L.length := by simp [convLL]
theorem convLL_get (L : List (List LE)) (i : Nat) (h : i < (convLL L).length) : (convLL L)[i] = convL (L[i]'(by rw [convLL_length] at h; exact h)) := by simp [convLL]
theorem toSS_l0 (L : List (List LE)) (hL : L.length ≤ 1048576) (hx : ∀ x ∈ L, x.length ≤ 1048576) (d : Nat) : ∀ (k i : Nat), i + d = L.length → d + 1048576 < k →
    laws_toExtSS.l0 k L ((convLL L).take i ++ List.replicate d []) i = some (convLL L) := by
  induction d with
  | zero =>
    intro k i hi hk
    obtain ⟨k, rfl⟩ : ∃ m, k = m + 1 := ⟨k - 1, by omega⟩
    simp only [laws_toExtSS.l0]
    rw [if_neg (by omega), List.take_of_length_le (by rw [convLL_length]; omega)]; simp
  | succ d ih =>
    intro k i hi hk
    obtain ⟨k, rfl⟩ : ∃ m, k = m + 1 := ⟨k - 1, by omega⟩
    have hlt : i < L.length := by omega
    have hlt2 : i < (convLL L).length := by rw [convLL_length]; exact hlt
    have hxi := hx _ (List.getElem_mem hlt)
    have hlen : ((convLL L).take i).length = i := by rw [List.length_take]; omega
    simp only [laws_toExtSS.l0]
    rw [if_pos (show (i : Int) < (L.length : Int) by omega), if_pos (show 0 ≤ (i : Int) by omega), rdLL_at hlt, toExtS_eq hxi (by omega)]
    simp only [bS]
    rw [if_pos (by rw [List.length_append, hlen, List.length_replicate]; omega), Int.toNat_natCast, List.replicate_succ]
    have hs := set_mid ((convLL L).take i) (List.replicate d []) [] (convL L[i])
    rw [hlen] at hs
    rw [hs, w64 (by omega) (by omega), show (i : Int) + 1 = ((i + 1 : Nat) : Int) by omega]
    have := ih k (i + 1) (by omega) (by omega)
    rw [List.take_succ_eq_append_getElem hlt2, convLL_get, List.append_assoc] at this
    exact this
theorem toSS_eq {L : List (List LE)} (hL : L.length ≤ 1048576) (hx : ∀ x ∈ L, x.length ≤ 1048576) {k : Nat} (hk : 3000000 < k) : laws_toExtSS.f k L = some (convLL L) := by
  unfold laws_toExtSS.f
  rw [if_pos (by omega), if_pos (by omega)]
  have := toSS_l0 L hL hx L.length k 0 (by omega) (by omega)
  rw [List.take_zero, List.nil_append, Int.natCast_zero] at this
  rw [Int.toNat_natCast]
  exact this
theorem eqSS_l0 (L : List (List E)) (hL : L.length ≤ 1048576) (hx : ∀ x ∈ L, x.length ≤ 1048576) (d : Nat) : ∀ (k i : Nat), i + d = L.length → d + 1048576 < k → laws_eqExtSS.l0 k L L i = some true := by
  induction d with
  | zero =>
    intro k i hi hk
    obtain ⟨k, rfl⟩ : ∃ m, k = m + 1 := ⟨k - 1, by omega⟩
    simp only [laws_eqExtSS.l0]
    rw [if_neg (by omega)]
  | succ d ih =>
    intro k i hi hk
    obtain ⟨k, rfl⟩ : ∃ m, k = m + 1 := ⟨k - 1, by omega⟩
    have hlt : i < L.length := by omega
    have hxi := hx _ (List.getElem_mem hlt)
    simp only [laws_eqExtSS.l0]
    rw [if_pos (show (i : Int) < (L.length : Int) by omega), if_pos (show 0 ≤ (i : Int) by omega), if_pos (show (i : Int) < (L.length : Int) by omega), rdEE_at hlt, eqExtS_refl (by omega) (by omega)]
    simp only [bS, if_true]
    rw [w64 (by omega) (by omega), show (i : Int) + 1 = ((i + 1 : Nat) : Int) by omega]
    exact ih k (i + 1) (by omega) (by omega)
theorem eqSS_refl {L : List (List E)} (hL : L.length ≤ 1048576) (hx : ∀ x ∈ L, x.length ≤ 1048576) {k : Nat} (hk : 3000000 < k) : laws_eqExtSS.f k L L = some true := by
  unfold laws_eqExtSS.f
  rw [if_pos rfl]
  exact eqSS_l0 L hL hx L.length k 0 (by omega) (by omega)
theorem convLL_short {L : List (List LE)} (hx : ∀ x ∈ L, x.length ≤ 1048576) : ∀ x ∈ convLL L, x.length ≤ 1048576 := by
  intro x h
  obtain ⟨y, hy, rfl⟩ := List.mem_map.mp h
  rw [convL_length]; exact hx y hy
/-! the code of tables -/
def okT (x : List E) : Bool := pow2B x.length 64 && okLB x
def askC (n0 : Nat) : List (List E) → Int
  | [] => 0
  | x :: xs => if okT x = true then (if x.length = n0 then askC n0 xs else 8) else 1
theorem ask_l0 (L : List (List E)) (hL : L.length ≤ 4096) (hL0 : 0 < L.length) (hx : ∀ x ∈ L, x.length ≤ 1048576) (d : Nat) : ∀ (k i : Nat), i + d = L.length → d + 1048600 < k →
    spec_l08Ask.l0 k L i = some (askC (L[0]).length (L.drop i)) ∧ impl_tablesCode.l0 k L L (L.length : Int) i = some (askC (L[0]).length (L.drop i)) := by
  induction d with
  | zero =>
    intro k i hi hk
    obtain ⟨k, rfl⟩ : ∃ m, k = m + 1 := ⟨k - 1, by omega⟩
    simp only [spec_l08Ask.l0, impl_tablesCode.l0]
    rw [if_neg (by omega), if_neg (by omega), List.drop_eq_nil_of_le (by omega)]
    exact ⟨rfl, rfl⟩
  | succ d ih =>
    intro k i hi hk
    obtain ⟨k, rfl⟩ : ∃ m, k = m + 1 := ⟨k - 1, by omega⟩
    have hlt : i < L.length := by omega
    have hxi := hx _ (List.getElem_mem hlt)
    have h0 : rd_L5 L 0 = L[0] := rdEE_at hL0
    simp only [spec_l08Ask.l0, impl_tablesCode.l0]
    rw [if_pos (show (i : Int) < (L.length : Int) by omega), if_pos (show 0 ≤ (i : Int) by omega), rdEE_at hlt, h0, spec_TableOK_eq hxi (by omega),
      if_pos (show (i : Int) < (L.length : Int) by omega), if_pos (show 0 ≤ (i : Int) by omega), if_pos (show (i : Int) < (L.length : Int) by omega), impl_TableOK_eq, List.drop_eq_getElem_cons hlt]
    simp only [bS, askC]
    by_cases h1 : okT L[i] = true
    · have h1' : (pow2B ((L[i]).length : Int) 64 && okLB L[i]) = true := h1
      rw [if_pos h1', if_pos h1', if_pos h1, if_pos (show 0 < (L.length : Int) by omega), if_pos (show 0 < (L.length : Int) by omega)]
      by_cases h2 : (L[i]).length = (L[0]).length
      · have hc : ((L[i]).length : Int) = ((L[0]).length : Int) := by omega
        rw [if_pos hc, if_pos h2, if_pos hc, w64 (by omega) (by omega), show (i : Int) + 1 = ((i + 1 : Nat) : Int) by omega]
        exact ih k (i + 1) (by omega) (by omega)
      · have hc : ¬ ((L[i]).length : Int) = ((L[0]).length : Int) := by omega
        rw [if_neg hc, if_neg h2, if_neg hc]; exact ⟨rfl, rfl⟩
    · have h1' : ¬ (pow2B ((L[i]).length : Int) 64 && okLB L[i]) = true := h1
      rw [if_neg h1', if_neg h1', if_neg h1]; exact ⟨rfl, rfl⟩
theorem askC_zero {n0 : Nat} : ∀ {L : List (List E)}, askC n0 L = 0 → ∀ x ∈ L, okT x = true ∧ x.length = n0
  | [], _ => by intro x hx; cases hx
  | y :: ys, h => by
    intro x hx
    unfold askC at h
    by_cases h1 : okT y = true
    · rw [if_pos h1] at h
      by_cases h2 : y.length = n0
      · rw [if_pos h2] at h
        rcases List.mem_cons.mp hx with rfl | hx
        · exact ⟨h1, h2⟩
        · exact askC_zero h x hx
      · rw [if_neg h2] at h; omega
    · rw [if_neg h1] at h; omega
theorem ask_same (a : Int) {L : List (List E)} (hx : ∀ x ∈ L, x.length ≤ 1048576) (hL : L.length ≤ 1048576) :
    ∃ c, (∀ k, 3000000 < k → spec_l08Ask.f k a L = some c ∧ impl_tablesCode.f k a L = some c) ∧ (4096 < L.length → c = 2) ∧
      (c = 0 → (a = 1 ∨ a = 2) ∧ (L.length : Int) = 2 * a ∧ ∃ n0, ∀ x ∈ L, okT x = true ∧ x.length = n0) := by
  by_cases h : (L.length : Int) > 4096
  · refine ⟨2, fun k hk => ?_, fun _ => rfl, fun h => by omega⟩
    unfold spec_l08Ask.f impl_tablesCode.f
    rw [if_pos h, if_pos h]; exact ⟨rfl, rfl⟩
  · by_cases h1 : a = 1 ∨ a = 2
    · have e1 : (if a = 1 then some true else some (a == 2)) = some true := by rcases h1 with rfl | rfl <;> rfl
      have e2 : decide (1 ≤ a ∧ a ≤ 2) = true := decide_eq_true (by omega)
      by_cases h2 : (L.length : Int) = 2 * a
      · refine ⟨askC (L[0]'(by omega)).length L, fun k hk => ?_, fun _ => by omega, fun h0 => ⟨h1, h2, _, askC_zero h0⟩⟩
        obtain ⟨k, rfl⟩ : ∃ m, k = m + 1 := ⟨k - 1, by omega⟩
        have q1 := (ask_l0 L (by omega) (by omega) hx L.length k 0 (by omega) (by omega)).1
        have q2 := (ask_l0 L (by omega) (by omega) hx L.length (k + 1) 0 (by omega) (by omega)).2
        unfold spec_l08Ask.f impl_tablesCode.f spec_l08Kind.f impl_degreeOf.f spec_l08Tables.f impl_tablesOf.f
        have e3 : ((L.length : Int) != 2 * a) = false := by rw [bne_eq_false_iff_eq]; exact h2
        rw [if_neg h, if_neg h, e1, impl_in_eq]
        simp only [bS, if_true]
        rw [e2]
        simp only [if_true, bS]
        rw [w64 (n := a + 1) (by omega) (by omega), w64 (n := 2 * a) (by omega) (by omega), if_neg (show ¬ a + 1 = 0 by omega), if_pos h2, e3]
        simp only [spec_l08Ask.j0, Bool.false_eq_true, if_false]
        rw [Int.natCast_zero, List.drop_zero] at q1 q2
        exact ⟨q1, q2⟩
      · refine ⟨4, fun k hk => ?_, fun _ => by omega, fun h => by omega⟩
        obtain ⟨k, rfl⟩ : ∃ m, k = m + 1 := ⟨k - 1, by omega⟩
        have e3 : ((L.length : Int) != 2 * a) = true := by rw [bne_iff_ne]; exact h2
        unfold spec_l08Ask.f impl_tablesCode.f spec_l08Kind.f impl_degreeOf.f spec_l08Tables.f impl_tablesOf.f
        rw [if_neg h, if_neg h, e1, impl_in_eq]
        simp only [bS, if_true]
        rw [e2]
        simp only [if_true, bS]
        rw [w64 (n := a + 1) (by omega) (by omega), w64 (n := 2 * a) (by omega) (by omega), if_neg (show ¬ a + 1 = 0 by omega), if_neg h2, e3]
        simp only [spec_l08Ask.j0, if_true]
        exact ⟨trivial, trivial⟩
    · refine ⟨4, fun k hk => ?_, fun _ => by omega, fun h => by omega⟩
      obtain ⟨k, rfl⟩ : ∃ m, k = m + 1 := ⟨k - 1, by omega⟩
      have e1 : (if a = 1 then some true else some (a == 2)) = some false := by
        rw [if_neg (by omega)]; congr 1; exact beq_eq_false_iff_ne.2 (by omega)
      have e2 : decide (1 ≤ a ∧ a ≤ 2) = false := decide_eq_false (by omega)
      unfold spec_l08Ask.f impl_tablesCode.f spec_l08Kind.f impl_degreeOf.f
      rw [if_neg h, if_neg h, e1, impl_in_eq]
      simp only [bS]
      rw [e2]
      simp only [Bool.false_eq_true, if_false, bS, spec_l08Ask.j0, if_true]
      exact ⟨trivial, trivial⟩
/-! the sum -/
theorem combine_eq {a : Int} {l : List E} (ha : a = 1 ∨ a = 2) (hl : okL l) (hn : (l.length : Int) = 2 * a) : ∃ r : E, okE r ∧ spec_l08Combine.f a l = some (r.f0, r.f1) ∧ impl_combine.f a l = some (r.f0, r.f1) := by
  unfold spec_l08Combine.f impl_combine.f
  rcases ha with rfl | rfl
  · rw [if_pos rfl, if_pos (by omega), if_pos (by omega), if_pos rfl, if_pos (by omega), if_pos (by omega)]
    rw [spec_l02Mul_eq (okL_rd hl (by omega) (by omega)) (okL_rd hl (by omega) (by omega)), impl_times_eq (okL_rd hl (by omega) (by omega)) (okL_rd hl (by omega) (by omega))]
    simp only [bS]
    exact ⟨_, ok_mul _ _, rfl, rfl⟩
  · rw [if_neg (by omega), if_pos (by omega), if_pos (by omega), if_pos (by omega), if_neg (by omega), if_pos (by omega), if_pos (by omega), if_pos (by omega)]
    rw [spec_l02Mul_eq (okL_rd hl (by omega) (by omega)) (okL_rd hl (by omega) (by omega)), impl_times_eq (okL_rd hl (by omega) (by omega)) (okL_rd hl (by omega) (by omega))]
    simp only [bS]
    rw [if_pos (by omega), if_pos (by omega)]
    rw [spec_l02Sub_eq (ok_mul _ _) (okL_rd hl (by omega) (by omega)), impl_minus_eq (ok_mul _ _) (okL_rd hl (by omega) (by omega))]
    simp only [bS]
    rw [spec_l02Mul_eq (okL_rd hl (by omega) (by omega)) (ok_sub _ _), impl_times_eq (okL_rd hl (by omega) (by omega)) (ok_sub _ _)]
    simp only [bS]
    exact ⟨_, ok_mul _ _, rfl, rfl⟩
def col (i : Nat) (x : List E) : E := x.getD i zE
theorem specAt_l0 (a : Int) (L : List (List E)) (hL : L.length ≤ 4) (n0 : Nat) (hx : ∀ x ∈ L, x.length = n0) (i : Nat) (hi : i < n0) (d : Nat) : ∀ (k j : Nat), j + d = L.length → d < k →
    spec_l08At.l0 k a L i ((L.take j).map (col i)) j = (spec_l08Combine.f a (L.map (col i))).bind fun bt => some (bt.1, bt.2) := by
  induction d with
  | zero =>
    intro k j hj hk
    obtain ⟨k, rfl⟩ : ∃ m, k = m + 1 := ⟨k - 1, by omega⟩
    simp only [spec_l08At.l0]
    rw [if_neg (by omega), List.take_of_length_le (by omega)]
  | succ d ih =>
    intro k j hj hk
    obtain ⟨k, rfl⟩ : ∃ m, k = m + 1 := ⟨k - 1, by omega⟩
    have hlt : j < L.length := by omega
    have hxj := hx _ (List.getElem_mem hlt)
    have e : rd_T42 L[j] (i : Int) = col i L[j] := by rw [rdE, Int.toNat_natCast]; rfl
    simp only [spec_l08At.l0]
    rw [if_pos (show (j : Int) < (L.length : Int) by omega), if_pos (show 0 ≤ (j : Int) by omega), if_pos (show 0 ≤ (i : Int) by omega), rdEE_at hlt, if_pos (show (i : Int) < ((L[j]).length : Int) by omega),
      if_pos (by simp; omega), etaE, e, w64 (by omega) (by omega), show (j : Int) + 1 = ((j + 1 : Nat) : Int) by omega]
    have := ih k (j + 1) (by omega) (by omega)
    rw [List.take_succ_eq_append_getElem hlt, List.map_append] at this
    exact this
theorem implSum_l1 (a : Int) (L : List (List E)) (hL : L.length ≤ 4) (n0 : Nat) (hx : ∀ x ∈ L, x.length = n0) (i : Nat) (hi : i < n0) (acc : E) (d : Nat) : ∀ (k j : Nat), j + d = L.length → d < k →
    impl_sumOf.l1 k a L i ((L.take j).map (col i)) (n0 : Int) i L (L.length : Int) j acc.f0 acc.f1 =
      (impl_combine.f a (L.map (col i))).bind fun bt112 => ((impl_Ext_plus.f acc.f0 acc.f1 bt112.1 bt112.2).bind fun bt114 => (impl_sumOf.l0 (k - d - 1) a L (n0 : Int) (wrap64 ((i : Int) + 1)) bt114.1 bt114.2)) := by
  induction d with
  | zero =>
    intro k j hj hk
    obtain ⟨k, rfl⟩ : ∃ m, k = m + 1 := ⟨k - 1, by omega⟩
    simp only [impl_sumOf.l1]
    rw [if_neg (by omega), List.take_of_length_le (by omega)]
    rfl
  | succ d ih =>
    intro k j hj hk
    obtain ⟨k, rfl⟩ : ∃ m, k = m + 1 := ⟨k - 1, by omega⟩
    have hlt : j < L.length := by omega
    have hxj := hx _ (List.getElem_mem hlt)
    have e : rd_T42 L[j] (i : Int) = col i L[j] := by rw [rdE, Int.toNat_natCast]; rfl
    have e2 : k + 1 - (d + 1) - 1 = k - d - 1 := by omega
    simp only [impl_sumOf.l1]
    rw [if_pos (show (j : Int) < (L.length : Int) by omega), if_pos (show 0 ≤ (j : Int) by omega), if_pos (show (j : Int) < (L.length : Int) by omega), if_pos (show 0 ≤ (i : Int) by omega), rdEE_at hlt, if_pos (show (i : Int) < ((L[j]).length : Int) by omega),
      if_pos (by simp; omega), etaE, e, w64 (n := (j : Int) + 1) (by omega) (by omega), show (j : Int) + 1 = ((j + 1 : Nat) : Int) by omega, e2]
    have := ih k (j + 1) (by omega) (by omega)
    rw [List.take_succ_eq_append_getElem hlt, List.map_append] at this
    exact this
theorem sum_l0 (a : Int) (ha : a = 1 ∨ a = 2) (L : List (List E)) (hL : (L.length : Int) = 2 * a) (n0 : Nat) (hx : ∀ x ∈ L, okL x ∧ x.length = n0) (hn : n0 ≤ 4096) (d : Nat) : ∀ (i : Nat) (acc : E), i + d = n0 → okE acc →
    ∃ q : E, okE q ∧ ∀ ks ki, d + 20 < ks → d * 10 + 20 < ki → spec_l08Sum.l0 ks a L i acc.f0 acc.f1 = some (q.f0, q.f1) ∧ impl_sumOf.l0 ki a L (n0 : Int) i acc.f0 acc.f1 = some (q.f0, q.f1) := by
  have hpos : 0 < L.length := by omega
  have h0 : rd_L5 L 0 = L[0]'hpos := rdEE_at hpos
  have h0n : (L[0]'hpos).length = n0 := (hx _ (List.getElem_mem _)).2
  induction d with
  | zero =>
    intro i acc hi hacc
    refine ⟨acc, hacc, fun ks ki hks hki => ?_⟩
    obtain ⟨ks, rfl⟩ : ∃ m, ks = m + 1 := ⟨ks - 1, by omega⟩
    obtain ⟨ki, rfl⟩ : ∃ m, ki = m + 1 := ⟨ki - 1, by omega⟩
    simp only [spec_l08Sum.l0, impl_sumOf.l0]
    rw [if_pos (show 0 < (L.length : Int) by omega), h0, h0n, if_neg (by omega), if_neg (by omega)]; exact ⟨rfl, rfl⟩
  | succ d ih =>
    intro i acc hi hacc
    have hcol : okL (L.map (col i)) := by
      intro y hy
      obtain ⟨x, hxm, rfl⟩ := List.mem_map.mp hy
      exact okL_get (hx x hxm).1 i (by rw [(hx x hxm).2]; omega)
    obtain ⟨r, hr, c1, c2⟩ := combine_eq ha hcol (by rw [List.length_map]; exact hL)
    obtain ⟨q, hq, h⟩ := ih (i + 1) (eadd acc r) (by omega) (ok_add _ _)
    refine ⟨q, hq, fun ks ki hks hki => ?_⟩
    obtain ⟨ks, rfl⟩ : ∃ m, ks = m + 1 := ⟨ks - 1, by omega⟩
    obtain ⟨ki, rfl⟩ : ∃ m, ki = m + 1 := ⟨ki - 1, by omega⟩
    have s1 := specAt_l0 a L (by omega) n0 (fun x hm => (hx x hm).2) i (by omega) L.length ks 0 (by omega) (by omega)
    have s2 := implSum_l1 a L (by omega) n0 (fun x hm => (hx x hm).2) i (by omega) acc L.length ki 0 (by omega) (by omega)
    rw [List.take_zero, List.map_nil, Int.natCast_zero] at s1 s2
    simp only [spec_l08Sum.l0, impl_sumOf.l0, spec_l08At.f]
    rw [if_pos (show 0 < (L.length : Int) by omega), h0, h0n, if_pos (by omega), if_pos (by omega), s1, s2, c1, c2]
    simp only [bS]
    rw [spec_l02Add_eq hacc hr, impl_plus_eq hacc hr]
    simp only [bS]
    rw [w64 (by omega) (by omega), show (i : Int) + 1 = ((i + 1 : Nat) : Int) by omega]
    exact h ks (ki - L.length - 1) (by omega) (by omega)
theorem sum_same {a : Int} (ha : a = 1 ∨ a = 2) {L : List (List E)} (hL : (L.length : Int) = 2 * a) {n0 : Nat} (hx : ∀ x ∈ L, okL x ∧ x.length = n0) (hn : n0 ≤ 4096) :
    ∃ q : E, okE q ∧ ∀ k, 100000 < k → spec_l08Sum.f k a L = some (q.f0, q.f1) ∧ impl_sumOf.f k a L = some (q.f0, q.f1) := by
  have hpos : 0 < L.length := by omega
  have h0 : rd_L5 L 0 = L[0]'hpos := rdEE_at hpos
  have h0n : (L[0]'hpos).length = n0 := (hx _ (List.getElem_mem _)).2
  obtain ⟨q, hq, h⟩ := sum_l0 a ha L hL n0 hx hn n0 0 zE (by omega) ok_zero
  refine ⟨q, hq, fun k hk => ?_⟩
  unfold spec_l08Sum.f impl_sumOf.f
  rw [if_pos (show 0 < (L.length : Int) by omega), h0, h0n]
  exact h k k (by omega) (by omega)
theorem okT_iff {x : List E} (h : okT x = true) : okL x ∧ x.length ≤ 64 := by
  unfold okT at h
  rw [Bool.and_eq_true] at h
  exact ⟨(okLB_iff x).1 h.2, by have := pow2B_64 h.1; omega⟩
end Go.Proofs.Ytlfnfalckfggkaa.PT
end
section
/- The sum over all points is alike on both sides, the tables untouched. -/
namespace Go.Proofs.Ytlfnfalckfggkaa.fnExactSumOf
open Go.Proofs.Ytlfnfalckfggkaa.PT Go.RowKit Go.Proofs.YtlfnfalckfggkaaO Go.Proofs.YtlfnfalckfggkaaW.PrintWords Go.Proofs.YtlfnfalckfggkaaW.PrintLast Go.Proofs.YtlfnfalckfggkaaW.PrintMore
set_option linter.unusedSimpArgs false
theorem same (a : Int) (L : List (List E)) (hL : L.length ≤ 1048576) (hx : ∀ x ∈ L, x.length ≤ 1048576) {k : Nat} (hk : 3000000 < k) : ∃ r, spec_SumOf.f k a L = some r ∧ impl_SumOf.f k a L = some r := by
  obtain ⟨c, h1, h2, h3⟩ := ask_same a hx hL
  obtain ⟨e1, e2⟩ := h1 k hk
  unfold spec_SumOf.f impl_SumOf.f
  rw [e1, e2]
  simp only [bS]
  by_cases h0 : c = 0
  · obtain ⟨ha, hn, n0, hall⟩ := h3 h0
    rw [if_pos h0, if_pos h0, if_neg (by omega)]
    have hpos : 0 < L.length := by omega
    have hn0 : n0 ≤ 64 := by
      have := hall _ (List.getElem_mem hpos)
      have := (okT_iff this.1).2
      omega
    obtain ⟨q, hq, hs⟩ := sum_same ha hn (n0 := n0) (fun x hm => ⟨(okT_iff (hall x hm).1).1, (hall x hm).2⟩) (by omega)
    obtain ⟨s1, s2⟩ := hs k (by omega)
    rw [s1, s2]; exact ⟨_, rfl, rfl⟩
  · rw [if_neg h0, if_neg h0]
    by_cases h4 : (L.length : Int) > 4096
    · rw [if_pos h4, h2 (by omega)]; exact ⟨_, rfl, rfl⟩
    · rw [if_neg h4]; exact ⟨_, rfl, rfl⟩
theorem pureFnExactSumOf : Pure := by
  intro a x _ hx
  obtain ⟨r0, hr, hr2⟩ := szSS_eq (L := x) (fun y hy => (hx.2 y hy).1) hx.1
  refine ⟨4000000 + 1, ?_⟩
  generalize hK : 4000000 = K
  unfold laws_FnExactSumOf.f
  rw [hr (K + 1) (by omega)]
  simp only [bS]
  by_cases h0 : r0 < 0
  · rw [if_pos h0]
  · obtain ⟨hL, hs⟩ : x.length ≤ 1048576 ∧ ∀ y ∈ x, y.length ≤ 1048576 := by
      rcases hr2 with h | h
      · exact absurd h h0
      · exact h
    obtain ⟨r, e1, e2⟩ := same a (convLL x) (by rw [convLL_length]; exact hL) (convLL_short hs) (k := K + 1) (by omega)
    rw [if_neg h0, toSS_eq hL hs (k := K + 1) (by omega)]
    simp only [bS]
    rw [e1, e2]
    simp only [bS]
    rw [eqExt_refl]
    simp only [bS, if_true, bne_self_eq_false, laws_FnExactSumOf.j0, Bool.false_eq_true, if_false]
    rw [toSS_eq hL hs (k := K) (by omega)]
    simp only [bS]
    rw [eqSS_refl (by rw [convLL_length]; exact hL) (convLL_short hs) (k := K) (by omega)]
    simp only [bS, if_true]
end Go.Proofs.Ytlfnfalckfggkaa.fnExactSumOf
end
